/- the plain law -/
import Derived.Test.YtdjnlmmhbeeihaaGreatDoorP1
namespace Go.Proofs.YtdjnlmmhbeeihaaGreatDoor
open Go Go.Sk
set_option linter.unusedSimpArgs false
set_option linter.unusedVariables false
theorem gcd_tmod (n m : Int) : Nat.gcd n.natAbs m.natAbs = Nat.gcd m.natAbs (n.tmod m).natAbs := by
 rw [Int.natAbs_tmod]; exact gcd_step _ _
theorem tmod_lt {n m : Int} (h : m ≠ 0) : (n.tmod m).natAbs < m.natAbs := by
 rw [Int.natAbs_tmod]; exact Nat.mod_lt _ (by omega)
theorem rGcd_v {a b : Int} (ra : InM a) (rb : InM b) : r3_Gcd_S FF (big a) (big b) = some (big (Nat.gcd a.natAbs b.natAbs : Nat)) := by
 have hF := FF2
 have hFb := FFb
 refine Yld.eq ?_
 unfold r3_Gcd_S
 refine Yld.bindE (word_y' hF (big_in a)) ?_
 rw [iv_big ra]
 generalize hp : wd (some a) = wx
 obtain ⟨p, p'⟩ := wx
 refine Yld.bindE (word_y' hF (big_in b)) ?_
 rw [iv_big rb]
 generalize hq : wd (some b) = wy
 obtain ⟨q, q'⟩ := wy
 dsimp only [un2]
 refine Yld.bind (P := fun o => o = .inr (big (Nat.gcd a.natAbs b.natAbs : Nat)) ∨ o = .inl ()) (Yld.ite (fun h => ?_) (fun h => ?_)) ?_
 ·simp only [Bool.and_eq_true] at h
  obtain ⟨rfl, rfl⟩ := h
  obtain ⟨ea, la⟩ := wd_true hp
  obtain ⟨eb, lb⟩ := wd_true hq
  cases ea; cases eb
  have la' : a.natAbs < 4611686018427387904 := by unfold absZ at la; split at la <;> omega
  have lb' : b.natAbs < 4611686018427387904 := by unfold absZ at lb; split at lb <;> omega
  refine Yld.bind (P := fun z : Int => z.natAbs = Nat.gcd a.natAbs b.natAbs ∧ z.natAbs < 4611686018427387904) (Yld.loop (fun s : Int × Int => Nat.gcd s.1.natAbs s.2.natAbs = Nat.gcd a.natAbs b.natAbs ∧ s.1.natAbs < 4611686018427387904 ∧ s.2.natAbs < 4611686018427387904) (fun s => s.2.natAbs) ⟨rfl, la', lb'⟩ (by dsimp only; omega) ?_) ?_
  ·rintro ⟨n, m⟩ ⟨h1, h2, h3⟩
   dsimp only at h1 h2 h3
   dsimp only [un2]
   refine Yld.ite (fun h => ?_) (fun h => ?_)
   ·have hm : m ≠ 0 := of_decide_eq_true h
    have := tmod_lt (n := n) hm
    refine Yld.rem hm (Yld.some (.inl ⟨_, rfl, ⟨by dsimp only; rw [← gcd_tmod]; exact h1, h3, by dsimp only; omega⟩, this⟩))
   ·have hm : m = 0 := by have := of_decide_eq_false h; omega
    subst hm
    refine Yld.some (.inr ⟨_, rfl, ?_, h2⟩)
    simpa using h1
  ·rintro z ⟨hz, hl⟩
   refine Yld.bindE (rOf_y hF (by omega) (by omega)) (Yld.bindE (x := big (Nat.gcd a.natAbs b.natAbs : Nat)) ?_ (Yld.some (.inl rfl)))
   rw [rAbs_y hF (big_in z), one_big (by have := MM_big; constructor <;> omega), ← hz]
   unfold absZ toB
   dsimp only
   congr 2
   split <;> omega
 ·exact Yld.some (.inr rfl)
 ·rintro o (rfl | rfl)
  ·exact Yld.some rfl
  ·dsimp only [alt2]
   refine Yld.bindE (rGood_y hF (big_in a)) ?_
   rw [goodB_big ra]
   refine Yld.g1 rfl (Yld.bindE (rGood_y hF (big_in b)) ?_)
   rw [goodB_big rb]
   refine Yld.iff rfl (Yld.bind (dig_y hF ra) ?_)
   rintro c ⟨c1, c2, c3, c4⟩
   refine Yld.bind (dig_y hF rb) ?_
   rintro d ⟨d1, d2, d3, d4⟩
   have hm : (lv d).toNat < FF := by
    have h1 := (absZ_lt rb).2
    have h2 := FF_MM
    rw [d3]; omega
   refine Yld.bind (P := fun x : List Int => inD 65536 x ∧ x.length ≤ 99 ∧ lv x = (Nat.gcd a.natAbs b.natAbs : Nat)) (Yld.loop (fun s : List Int × List Int => (inD 65536 s.1 ∧ s.1.length ≤ 99) ∧ (inD 65536 s.2 ∧ Tight s.2 ∧ s.2.length ≤ 99) ∧ Nat.gcd (lv s.1).natAbs (lv s.2).natAbs = Nat.gcd a.natAbs b.natAbs) (fun s => (lv s.2).toNat) ⟨⟨c1, by dsimp only; omega⟩, ⟨d1, d2, by dsimp only; omega⟩, by dsimp only; rw [c3, d3, absZ_nat, absZ_nat]; rfl⟩ hm ?_) ?_
   ·rintro ⟨x, y⟩ ⟨⟨x1, x2⟩, ⟨y1, y2, y3⟩, hg⟩
    dsimp only at x1 x2 y1 y2 y3 hg
    dsimp only [un2]
    have hy := len_pos y1 y2
    have ny := lv_nonneg y1
    have nx := lv_nonneg x1
    refine Yld.ite (fun h => ?_) (fun h => ?_)
    ·have h' := of_decide_eq_true h
     have hl : 0 < y.length := by omega
     refine Yld.bind (divide_y hF x1 y1 y2 hl (by omega) (by omega)) ?_
     rintro ⟨q, r⟩ ⟨⟨q1, q2, q3⟩, ⟨r1, r2, r3⟩, e1, e2⟩
     dsimp only at q1 q2 q3 r1 r2 r3 e1 e2
     dsimp only [un2]
     have nr := lv_nonneg r1
     obtain ⟨m1, m2⟩ := div_mod_of e1 nr e2
     refine Yld.some (.inl ⟨_, rfl, ⟨⟨y1, y3⟩, ⟨r1, r2, ?_⟩, ?_⟩, ?_⟩)
     ·dsimp only; omega
     ·dsimp only
      rw [← hg, ← m2, gcd_step (lv x).natAbs]
      congr 1
      have := Int.natAbs_emod_of_nonneg (a := lv x) (b := lv y) nx
      omega
     ·dsimp only; omega
    ·have h' := of_decide_eq_false h
     have hz : lv y = 0 := by
      by_cases e : lv y = 0
      ·exact e
      ·have := hy.2 e; omega
     refine Yld.some (.inr ⟨_, rfl, x1, x2, ?_⟩)
     rw [hz] at hg
     simp only [Int.natAbs_zero, Nat.gcd_zero_right] at hg
     omega
   ·rintro x ⟨x1, x2, x3⟩
    refine Yld.bindE (num_y hF _ (by omega) x1) (Yld.some ?_)
    rw [x3]; simp
end Go.Proofs.YtdjnlmmhbeeihaaGreatDoor

namespace Go.Sk
set_option linter.unusedSimpArgs false
set_option linter.unusedVariables false
theorem red_coprime {n d g : Nat} (hg : g = Nat.gcd n d) (h0 : 0 < g) : Nat.gcd (n / g) (d / g) = 1 := by
 obtain ⟨a, ha⟩ : g ∣ n := hg ▸ Nat.gcd_dvd_left n d
 obtain ⟨b, hb⟩ : g ∣ d := hg ▸ Nat.gcd_dvd_right n d
 have e1 : n / g = a := by rw [ha, Nat.mul_div_cancel_left _ h0]
 have e2 : d / g = b := by rw [hb, Nat.mul_div_cancel_left _ h0]
 rw [e1, e2]
 have e3 := Nat.gcd_mul_left g a b
 rw [← ha, ← hb, ← hg] at e3
 have e4 : g * 1 = g * Nat.gcd a b := by omega
 exact (Nat.eq_of_mul_eq_mul_left h0 e4).symm
theorem den_pos (r : Rat) : (0 : Int) < r.den := by have := r.den_nz; omega
theorem divInt_cop {n d : Int} (h0 : 0 < d) (hc : Nat.gcd n.natAbs d.natAbs = 1) : (Rat.divInt n d).num = n ∧ ((Rat.divInt n d).den : Int) = d := by
 have key := Rat.num_divInt_den ⟨n, d.natAbs, by omega, hc⟩
 have e : ((d.natAbs : Nat) : Int) = d := by omega
 dsimp only at key
 rw [e] at key
 rw [key]
 exact ⟨rfl, e⟩
def gcdS (n d : Int) : Int := if d < 0 then -(Nat.gcd n.natAbs d.natAbs : Nat) else (Nat.gcd n.natAbs d.natAbs : Nat)
theorem red {n d : Int} (hd : d ≠ 0) : gcdS n d ≠ 0 ∧ (Rat.divInt n d).num * gcdS n d = n ∧ ((Rat.divInt n d).den : Int) * gcdS n d = d := by
 have g0 : 0 < Nat.gcd n.natAbs d.natAbs := Nat.gcd_pos_of_pos_right _ (by omega)
 have hc := red_coprime (n := n.natAbs) (d := d.natAbs) rfl g0
 have d1 := Nat.div_mul_cancel (Nat.gcd_dvd_left n.natAbs d.natAbs)
 have d2 := Nat.div_mul_cancel (Nat.gcd_dvd_right n.natAbs d.natAbs)
 generalize hg : Nat.gcd n.natAbs d.natAbs = g at *
 generalize n.natAbs / g = a at *
 generalize hb : d.natAbs / g = b at *
 have b0 : 0 < b := by
  rcases Nat.eq_zero_or_pos b with e | e
  ·subst e; omega
  ·exact e
 have e0 : gcdS n d = if d < 0 then -(g : Int) else g := by unfold gcdS; rw [hg]
 have d1' : (a : Int) * g = n.natAbs := by rw [← d1]; simp
 have d2' : (b : Int) * g = d.natAbs := by rw [← d2]; simp
 obtain ⟨x, hx, hn⟩ : ∃ x : Int, x.natAbs = a ∧ x * gcdS n d = n := by
  rw [e0]
  by_cases h1 : d < 0
  ·by_cases h2 : n < 0
   ·exact ⟨a, by omega, by rw [if_pos h1, Int.mul_neg, d1']; omega⟩
   ·exact ⟨-a, by omega, by rw [if_pos h1, Int.mul_neg, Int.neg_mul, d1']; omega⟩
  ·by_cases h2 : n < 0
   ·exact ⟨-a, by omega, by rw [if_neg h1, Int.neg_mul, d1']; omega⟩
   ·exact ⟨a, by omega, by rw [if_neg h1, d1']; omega⟩
 have hdd : (b : Int) * gcdS n d = d := by
  rw [e0]
  by_cases h1 : d < 0
  ·rw [if_pos h1, Int.mul_neg, d2']; omega
  ·rw [if_neg h1, d2']; omega
 have hgs : gcdS n d ≠ 0 := by rw [e0]; split <;> omega
 have hq : Rat.divInt n d = Rat.divInt x b := by
  rw [Rat.divInt_eq_divInt_iff hd (by omega)]
  generalize gcdS n d = G at *
  subst hn; subst hdd
  rw [Int.mul_assoc, Int.mul_comm G]
 have hcop := divInt_cop (n := x) (d := b) (by omega) (by rw [hx]; exact hc)
 rw [hq, hcop.1, hcop.2]
 exact ⟨hgs, hn, hdd⟩
theorem divInt_q (n d : Int) : Rat.divInt n d = (n : Rat) / (d : Rat) := Rat.divInt_eq_div n d
theorem rat_q (r : Rat) : r = (r.num : Rat) / (r.den : Int) := by
 have := Rat.num_divInt_den r
 rw [divInt_q] at this
 exact this.symm
theorem sum_q (r s : Rat) {g p q : Int} (h1 : (r.den : Int) = p * g) (h2 : (s.den : Int) = q * g) : r + s = Rat.divInt (r.num * q + s.num * p) (p * s.den) := by
 have r0 := den_pos r
 have s0 := den_pos s
 have hp : p ≠ 0 := by intro e; subst e; simp at h1; omega
 have hq : q ≠ 0 := by intro e; subst e; simp at h2; omega
 have hg : g ≠ 0 := by intro e; subst e; simp at h2; omega
 rw [divInt_q]
 have er := rat_q r
 have es := rat_q s
 rw [h1] at er
 rw [h2] at es
 rw [h2]
 generalize r.num = a at *
 generalize s.num = b at *
 rw [er, es]
 simp only [Rat.intCast_mul, Rat.intCast_add]
 have hp' : (p : Rat) ≠ 0 := by simpa using hp
 have hq' : (q : Rat) ≠ 0 := by simpa using hq
 have hg' : (g : Rat) ≠ 0 := by simpa using hg
 generalize (p : Rat) = P at *
 generalize (q : Rat) = Q at *
 generalize (g : Rat) = G at *
 generalize (a : Rat) = A at *
 generalize (b : Rat) = B at *
 grind
theorem prod_q (r s : Rat) : (r * s).num = (Rat.divInt r.num s.den).num * (Rat.divInt s.num r.den).num ∧ (((r * s).den : Nat) : Int) = (Rat.divInt r.num s.den).den * (Rat.divInt s.num r.den).den := by
  have r0 := den_pos r
  have s0 := den_pos s
  obtain ⟨g1, a1, a2⟩ := red (n := r.num) (d := s.den) (by omega)
  obtain ⟨g2, b1, b2⟩ := red (n := s.num) (d := r.den) (by omega)
  have ca := (Rat.divInt r.num s.den).reduced
  have cb := (Rat.divInt s.num r.den).reduced
  have cr := r.reduced
  have cs := s.reduced
  have pa := den_pos (Rat.divInt r.num s.den)
  have pb := den_pos (Rat.divInt s.num r.den)
  have er := rat_q r
  have es := rat_q s
  generalize ha : Rat.divInt r.num s.den = a at *
  generalize hb : Rat.divInt s.num r.den = b at *
  have e : r * s = Rat.divInt (a.num * b.num) (a.den * b.den) := by
    rw [divInt_q, Rat.intCast_mul, Rat.intCast_mul]
    have hab : r * s = a * b := by
      rw [← ha, ← hb, divInt_q, divInt_q]
      have h1 : ((r.den : Int) : Rat) ≠ 0 := by have : (r.den : Int) ≠ 0 := by omega
                                                simpa using this
      have h2 : ((s.den : Int) : Rat) ≠ 0 := by have : (s.den : Int) ≠ 0 := by omega
                                                simpa using this
      generalize ((r.den : Int) : Rat) = D1 at *
      generalize ((s.den : Int) : Rat) = D2 at *
      generalize (r.num : Rat) = N1 at *
      generalize (s.num : Rat) = N2 at *
      rw [er, es]
      grind
    have ea := rat_q a
    have eb := rat_q b
    rw [hab]
    have h1 : ((a.den : Int) : Rat) ≠ 0 := by have : (a.den : Int) ≠ 0 := by omega
                                              simpa using this
    have h2 : ((b.den : Int) : Rat) ≠ 0 := by have : (b.den : Int) ≠ 0 := by omega
                                              simpa using this
    generalize ((a.den : Int) : Rat) = D1 at *
    generalize ((b.den : Int) : Rat) = D2 at *
    generalize (a.num : Rat) = N1 at *
    generalize (b.num : Rat) = N2 at *
    rw [ea, eb]
    grind
  have k1 : Nat.Coprime a.num.natAbs b.den := by
    have hx : a.num.natAbs ∣ r.num.natAbs := Int.natAbs_dvd_natAbs.2 ⟨_, a1.symm⟩
    have hy : b.den ∣ r.den := by
      have : (b.den : Int) ∣ (r.den : Int) := ⟨_, b2.symm⟩
      exact Int.natCast_dvd_natCast.1 this
    exact Nat.Coprime.coprime_dvd_left hx (Nat.Coprime.coprime_dvd_right hy cr)
  have k2 : Nat.Coprime b.num.natAbs a.den := by
    have hx : b.num.natAbs ∣ s.num.natAbs := Int.natAbs_dvd_natAbs.2 ⟨_, b1.symm⟩
    have hy : a.den ∣ s.den := by
      have : (a.den : Int) ∣ (s.den : Int) := ⟨_, a2.symm⟩
      exact Int.natCast_dvd_natCast.1 this
    exact Nat.Coprime.coprime_dvd_left hx (Nat.Coprime.coprime_dvd_right hy cs)
  have hc : Nat.gcd (a.num * b.num).natAbs ((a.den : Int) * b.den).natAbs = 1 := by
    rw [Int.natAbs_mul, Int.natAbs_mul, Int.natAbs_natCast, Int.natAbs_natCast]
    exact Nat.Coprime.mul_left (Nat.Coprime.mul_right ca k1) (Nat.Coprime.mul_right k2 cb)
  rw [e]
  exact divInt_cop (Int.mul_pos pa pb) hc
end Go.Sk

namespace Go.Sk
set_option linter.unusedSimpArgs false
set_option linter.unusedVariables false
def cross (p q r s : Int) : Int := cmpZ (p * s) (r * q)
theorem cross_floor {p q r s : Int} (hq : 0 < q) (hs : 0 < s) (h : cmpZ (p / q) (r / s) ≠ 0) : cross p q r s = cmpZ (p / q) (r / s) := by
 have a1 := Int.ediv_mul_le p (show q ≠ 0 by omega)
 have a2 := Int.lt_ediv_add_one_mul_self p hq
 have b1 := Int.ediv_mul_le r (show s ≠ 0 by omega)
 have b2 := Int.lt_ediv_add_one_mul_self r hs
 generalize p / q = m at *
 generalize r / s = n at *
 have key : ∀ {m n p q r s : Int}, 0 < q → 0 < s → p < (m + 1) * q → n * s ≤ r → m < n → p * s < r * q := fun {m n p q r s} hq hs h1 h2 h => by
  have g1 := Int.mul_lt_mul_of_pos_right h1 hs
  have g2 := Int.mul_le_mul_of_nonneg_right h2 (Int.le_of_lt hq)
  have g3 := Int.mul_le_mul_of_nonneg_right (show m + 1 ≤ n by omega) (show 0 ≤ q * s from Int.mul_nonneg (Int.le_of_lt hq) (Int.le_of_lt hs))
  have e1 : (m + 1) * q * s = (m + 1) * (q * s) := Int.mul_assoc _ _ _
  have e2 : n * s * q = n * (q * s) := by rw [Int.mul_assoc, Int.mul_comm s]
  omega
 unfold cross cmpZ at *
 by_cases h1 : m < n
 ·have := key hq hs a2 b1 h1
  rw [if_pos h1, if_pos this]
 ·rw [if_neg h1] at h ⊢
  by_cases h2 : n < m
  ·have := key hs hq b2 a1 h2
   rw [if_pos h2, if_neg (by omega), if_pos this]
  ·rw [if_neg h2] at h; exact absurd rfl h
theorem cross_rest {p q r s : Int} (h : p / q = r / s) : cross p q r s = cmpZ (p % q * s) (r % s * q) := by
 have e1 := Int.mul_ediv_add_emod p q
 have e2 := Int.mul_ediv_add_emod r s
 rw [← h] at e2
 generalize p / q = k at *
 generalize p % q = a at *
 generalize r % s = b at *
 have e3 : p * s = a * s + k * q * s := by rw [← e1]; grind
 have e4 : r * q = b * q + k * q * s := by rw [← e2]; grind
 unfold cross cmpZ
 rw [e3, e4]
 have h1 : (a * s + k * q * s < b * q + k * q * s) = (a * s < b * q) := propext (by omega)
 have h2 : (b * q + k * q * s < a * s + k * q * s) = (b * q < a * s) := propext (by omega)
 simp only [h1, h2]
theorem cross_end {p q r s : Int} (hq : 0 < q) (hs : 0 < s) (h : p / q = r / s) (h0 : p % q = 0 ∨ r % s = 0) : cross p q r s = sgn (p % q) - sgn (r % s) := by
 rw [cross_rest h]
 have a0 := Int.emod_nonneg p (show q ≠ 0 by omega)
 have b0 := Int.emod_nonneg r (show s ≠ 0 by omega)
 generalize p % q = a at *
 generalize r % s = b at *
 unfold cmpZ sgn
 rcases h0 with rfl | rfl
 ·rw [Int.zero_mul]
  rcases (by omega : b = 0 ∨ 0 < b) with rfl | g
  ·simp
  ·have := Int.mul_pos g hq
   rw [if_pos this, if_pos rfl, if_neg (by omega), if_neg (by omega)]; rfl
 ·rw [Int.zero_mul]
  rcases (by omega : a = 0 ∨ 0 < a) with rfl | g
  ·simp
  ·have := Int.mul_pos g hs
   rw [if_neg (by omega), if_pos this, if_neg (by omega), if_neg (by omega), if_pos rfl]; rfl
theorem cross_next {p q r s : Int} (h : p / q = r / s) : cross p q r s = -cross q (p % q) s (r % s) := by
 rw [cross_rest h]
 unfold cross
 rw [Int.mul_comm (p % q), Int.mul_comm (r % s)]
 generalize s * (p % q) = u
 generalize q * (r % s) = v
 unfold cmpZ
 split <;> split <;> (try split) <;> omega
theorem fq_fr_pos (a : Int) {b : Int} (hb : 0 < b) : fq a b = a / b ∧ fr a b = a % b := by
 have h0 := Int.emod_nonneg a (show b ≠ 0 by omega)
 have h1 := Int.emod_lt_of_pos a hb
 have eb : absZ b = b := if_neg (by omega)
 have er : absZ (a % b) = a % b := if_neg (by omega)
 have := fq_unique (a := a) (b := b) (q := a / b) (r := a % b) (by omega) (Int.mul_ediv_add_emod a b).symm (by rw [eb, er]; exact h1) (.inr (by rw [decide_eq_decide]; omega))
 exact ⟨this.1.symm, this.2.symm⟩
end Go.Sk

namespace Go.Proofs.YtdjnlmmhbeeihaaGreatDoor
open Go Go.Sk
set_option linter.unusedSimpArgs false
set_option linter.unusedVariables false
def bf : Frc := ⟨bad, big 1⟩
def fits (r : Rat) : Prop := InM r.num ∧ InM r.den
noncomputable instance (r : Rat) : Decidable (fits r) := Classical.propDecidable _
def mk (r : Rat) : Frc := ⟨big r.num, big r.den⟩
noncomputable def ofR (r : Rat) : Frc := if fits r then mk r else bf
abbrev inF (x : Frc) : Prop := inB x.N ∧ inB x.D
def qF (x : Frc) : Option Rat := match iv x.N, iv x.D with
 | some n, some d => if 0 < d ∧ Nat.gcd n.natAbs d.natAbs = 1 then some (Rat.divInt n d) else none
 | _, _ => none
noncomputable def mkB (n d : Big) : Frc := match iv n, iv d with
 | some a, some b => if b = 0 then bf else ofR (Rat.divInt a b)
 | _, _ => bf
theorem in_mk {N D : Big} (h1 : inB N) (h2 : inB D) : inF ⟨N, D⟩ := And.intro h1 h2
theorem bf_in : inF bf := in_mk bad_in (big_in 1)
theorem mk_in (r : Rat) : inF (mk r) := in_mk (big_in _) (big_in _)
theorem ofR_in (r : Rat) : inF (ofR r) := by unfold ofR; split; exact mk_in r; exact bf_in
theorem mkB_in (n d : Big) : inF (mkB n d) := by
 unfold mkB; split
 ·split; exact bf_in; exact ofR_in _
 ·exact bf_in
theorem ofR_fits {r : Rat} (h : fits r) : ofR r = mk r := by unfold ofR; rw [if_pos h]
theorem ofR_not {r : Rat} (h : ¬ fits r) : ofR r = bf := by unfold ofR; rw [if_neg h]
theorem qF_none {N D : Big} (h : iv N = none) : qF ⟨N, D⟩ = none := by
 unfold qF
 dsimp only
 rw [h]
theorem qF_bf : qF bf = none := by
 unfold bf
 exact qF_none iv_bad
theorem qF_of {N D : Big} {n d : Int} (hn : iv N = some n) (hd : iv D = some d) (h0 : 0 < d) (hc : Nat.gcd n.natAbs d.natAbs = 1) : qF ⟨N, D⟩ = some (Rat.divInt n d) := by
 unfold qF
 dsimp only
 rw [hn, hd]
 dsimp only
 rw [if_pos ⟨h0, hc⟩]
theorem qF_mk {r : Rat} (h : fits r) : qF (mk r) = some r := by
 have hc : Nat.gcd r.num.natAbs ((r.den : Int)).natAbs = 1 := by rw [Int.natAbs_natCast]; exact r.reduced
 have := qF_of (iv_big h.1) (iv_big h.2) (den_pos r) hc
 rw [Rat.num_divInt_den] at this
 exact this
theorem qF_ofR (r : Rat) : qF (ofR r) = if fits r then some r else none := by
 unfold ofR
 split
 ·exact qF_mk (by assumption)
 ·exact qF_bf
theorem qF_some {x : Frc} {r : Rat} (hx : inF x) (h : qF x = some r) : fits r ∧ x = mk r := by
 unfold qF at h
 split at h
 ·next n d hn hd =>
  obtain ⟨_, en, rn⟩ := iv_some hx.1 hn
  obtain ⟨_, ed, rd⟩ := iv_some hx.2 hd
  split at h
  ·next hc =>
   have e := divInt_cop hc.1 hc.2
   cases h
   refine ⟨⟨by rw [e.1]; exact rn, by rw [e.2]; exact rd⟩, ?_⟩
   unfold mk
   rw [e.1, e.2, ← en, ← ed]
  ·cases h
 ·cases h
theorem fq_mul {q g : Int} (h : g ≠ 0) : fq (q * g) g = q := by
 refine (fq_unique h (r := 0) (by rw [Int.mul_comm]; omega) ?_ (.inl rfl)).1.symm
 have := absZ_pos h
 simpa [absZ] using this
theorem red_fits {n d : Int} (hd : d ≠ 0) (rn : InM n) (rd : InM d) : fits (Rat.divInt n d) := by
 obtain ⟨g0, e1, e2⟩ := red (n := n) hd
 have key : ∀ {a g m : Int}, g ≠ 0 → a * g = m → InM m → InM a := fun {a g m} hg e hm => by
  have h1 : a.natAbs * g.natAbs = m.natAbs := by rw [← Int.natAbs_mul, e]
  have h2 : a.natAbs * 1 ≤ a.natAbs * g.natAbs := Nat.mul_le_mul_left _ (by omega)
  constructor <;> have := hm.1 <;> have := hm.2 <;> omega
 exact ⟨key g0 e1 rn, key g0 e2 rd⟩
theorem goodz_y {x : Big} : q_good_S FF x = some (goodB x) := by
 refine Yld.eq ?_
 unfold q_good_S goodB
 cases h : x.Bad with
 | true => exact Yld.g0 rfl (Yld.some (by simp))
 | false => exact Yld.g1 rfl (Yld.bindE (Valid_y FF x) (Yld.some (by simp [h])))
theorem one_y : q_one_S FF = some (big 1) := by
 unfold q_one_S
 rw [Of_v (by decide) (by decide)]; rfl
theorem Bad_f : q_Bad_S FF = some bf := by
 unfold q_Bad_S
 rw [Bad_y, Option.bind_some, one_y]; rfl
theorem sgn_pos {d : Int} : decide (0 < sgn d) = decide (0 < d) := by rw [decide_eq_decide]; unfold sgn; split <;> (try split) <;> omega
theorem sgn_neg {d : Int} : decide (sgn d < 0) = decide (d < 0) := by rw [decide_eq_decide]; unfold sgn; split <;> (try split) <;> omega
theorem sgn_zero {d : Int} : decide (sgn d = 0) = decide (d = 0) := by rw [decide_eq_decide]; unfold sgn; split <;> (try split) <;> omega
theorem Good_f {x : Frc} (hx : inF x) : q_Good_S FF x = some (qF x).isSome := by
 refine Yld.eq ?_
 unfold q_Good_S qF
 refine Yld.bindE goodz_y ?_
 cases hn : iv x.N with
 | none =>
  rw [iv_none hn]
  exact Yld.g0 rfl (Yld.g0 rfl (Yld.g0 rfl (Yld.g0 rfl (Yld.some rfl))))
 | some n =>
  obtain ⟨gn, en, rn⟩ := iv_some hx.1 hn
  rw [gn]
  refine Yld.g1 rfl (Yld.bindE goodz_y ?_)
  cases hd : iv x.D with
  | none =>
   rw [iv_none hd]
   exact Yld.g0 rfl (Yld.g0 rfl (Yld.g0 rfl (Yld.some rfl)))
  | some d =>
   obtain ⟨gd, ed, rd⟩ := iv_some hx.2 hd
   rw [gd, en, ed]
   refine Yld.g1 rfl (Yld.bindE (Sign_v rd) ?_)
   rw [sgn_pos]
   by_cases h0 : 0 < d
   ·rw [decide_eq_true h0]
    refine Yld.g1 rfl (Yld.bindE (Gcd_v rn rd) (Yld.g1 rfl (Yld.bindE one_y (Yld.some ?_))))
    have hg : InM (Nat.gcd n.natAbs d.natAbs : Nat) := by
     have := Nat.gcd_le_right n.natAbs (show 0 < d.natAbs by omega)
     have := rd.1; have := rd.2
     constructor <;> omega
    have e : (big (Nat.gcd n.natAbs d.natAbs : Nat) = big 1) = (Nat.gcd n.natAbs d.natAbs = 1) := by
     rw [eq_iff_iff, big_inj hg one_InM]; omega
    simp only [e]
    by_cases h1 : Nat.gcd n.natAbs d.natAbs = 1
    ·simp [h1, h0]
    ·simp [h1]
   ·rw [decide_eq_false h0]
    refine Yld.g0 rfl (Yld.g0 rfl (Yld.some ?_))
    simp [h0]
theorem Make_f {n d : Big} (hn : inB n) (hd : inB d) : q_Make_S FF n d = some (mkB n d) := by
 refine Yld.eq ?_
 unfold q_Make_S mkB
 refine Yld.bindE goodz_y ?_
 cases ha : iv n with
 | none =>
  rw [iv_none ha]
  exact Yld.g0 rfl (Yld.g0 rfl (Yld.ift rfl (Yld.bindE Bad_f (Yld.some rfl))))
 | some a =>
  obtain ⟨ga, rfl, ra⟩ := iv_some hn ha
  rw [ga]
  refine Yld.g1 rfl (Yld.bindE goodz_y ?_)
  cases hb : iv d with
  | none =>
   rw [iv_none hb]
   exact Yld.g0 rfl (Yld.ift rfl (Yld.bindE Bad_f (Yld.some rfl)))
  | some b =>
   obtain ⟨gb, rfl, rb⟩ := iv_some hd hb
   rw [gb]
   refine Yld.g1 rfl (Yld.bindE (Sign_v rb) ?_)
   rw [sgn_zero]
   by_cases h0 : b = 0
   ·rw [decide_eq_true h0]
    exact Yld.ift rfl (Yld.bindE Bad_f (Yld.some (by simp [h0])))
   ·rw [decide_eq_false h0]
    have hg : InM (Nat.gcd a.natAbs b.natAbs : Nat) := by
     have := Nat.gcd_le_right a.natAbs (show 0 < b.natAbs by omega)
     have := rb.1; have := rb.2
     constructor <;> omega
    have hgs : InM (gcdS a b) := by unfold gcdS; split <;> (have := hg.1; have := hg.2; constructor <;> omega)
    obtain ⟨g0, e1, e2⟩ := red (n := a) h0
    refine Yld.iff rfl (Yld.bindE (Gcd_v ra rb) (Yld.bind (P := fun g => g = big (gcdS a b)) (Yld.bindE (Sign_v rb) ?_) ?_))
    ·rw [sgn_neg]
     unfold gcdS
     refine Yld.ite (fun h => ?_) (fun h => ?_)
     ·rw [if_pos (of_decide_eq_true h), Neg_y FF1 (big_in _), one_big hg]; exact Yld.some rfl
     ·rw [if_neg (of_decide_eq_false h)]; exact Yld.some rfl
    ·rintro g rfl
     refine Yld.bindE (Quo_v ra hgs g0) (Yld.bindE (Quo_v rb hgs g0) (Yld.some ?_))
     dsimp only
     rw [if_neg h0, ofR_fits (red_fits h0 ra rb)]
     unfold mk
     have f1 : fq a (gcdS a b) = (Rat.divInt a b).num := by
      have := fq_mul (q := (Rat.divInt a b).num) g0
      rwa [e1] at this
     have f2 : fq b (gcdS a b) = ((Rat.divInt a b).den : Int) := by
      have := fq_mul (q := ((Rat.divInt a b).den : Int)) g0
      rwa [e2] at this
     rw [f1, f2]
end Go.Proofs.YtdjnlmmhbeeihaaGreatDoor

namespace Go.Proofs.YtdjnlmmhbeeihaaGreatDoor
open Go Go.Sk
set_option linter.unusedSimpArgs false
set_option linter.unusedVariables false
def un (f : Rat → Frc) (x : Frc) : Frc := match qF x with
 | some r => f r
 | none => bf
def bi (f : Rat → Rat → Frc) (x y : Frc) : Frc := match qF x, qF y with
 | some r, some s => f r s
 | _, _ => bf
theorem un_none {f : Rat → Frc} {x : Frc} (h : qF x = none) : un f x = bf := by unfold un; rw [h]
theorem un_some {f : Rat → Frc} {x : Frc} {r : Rat} (h : qF x = some r) : un f x = f r := by unfold un; rw [h]
theorem bi_none1 {f : Rat → Rat → Frc} {x y : Frc} (h : qF x = none) : bi f x y = bf := by unfold bi; rw [h]
theorem bi_none2 {f : Rat → Rat → Frc} {x y : Frc} (h : qF y = none) : bi f x y = bf := by unfold bi; rw [h]; cases qF x <;> rfl
theorem bi_some {f : Rat → Rat → Frc} {x y : Frc} {r s : Rat} (h : qF x = some r) (h2 : qF y = some s) : bi f x y = f r s := by unfold bi; rw [h, h2]
theorem neg_nd (r : Rat) : (-r).num = -r.num ∧ (-r).den = r.den := ⟨rfl, rfl⟩
theorem neg_fits {r : Rat} (h : fits r) : fits (-r) := by
 obtain ⟨⟨h1, h2⟩, h3⟩ := h
 exact ⟨by rw [(neg_nd r).1]; constructor <;> omega, by rw [(neg_nd r).2]; exact h3⟩
theorem mk_N (r : Rat) : (mk r).N = big r.num := by simp only [mk]
theorem mk_D (r : Rat) : (mk r).D = big r.den := by simp only [mk]
theorem Neg_f {x : Frc} (hx : inF x) : q_Neg_S FF x = some (un (fun r => ofR (-r)) x) := by
 refine Yld.eq ?_
 unfold q_Neg_S
 refine Yld.bindE (Good_f hx) ?_
 cases hq : qF x with
 | none => rw [un_none hq]; exact Yld.ift rfl (Yld.bindE Bad_f (Yld.some rfl))
 | some r =>
  obtain ⟨hf, rfl⟩ := qF_some hx hq
  rw [un_some hq, ofR_fits (neg_fits hf), mk_N, mk_D]
  refine Yld.iff rfl (Yld.bindE (x := big (-r.num)) (by rw [Neg_y FF1 (big_in _), one_big hf.1]; rfl) (Yld.some ?_))
  unfold mk
  rw [(neg_nd r).1, (neg_nd r).2]
theorem un_in {f : Rat → Frc} (hf : ∀ r, inF (f r)) (x : Frc) : inF (un f x) := by unfold un; split; exact hf _; exact bf_in
theorem bi_in {f : Rat → Rat → Frc} (hf : ∀ r s, inF (f r s)) (x y : Frc) : inF (bi f x y) := by unfold bi; split; exact hf _ _; exact bf_in
theorem mkB_big {a b : Int} (ra : InM a) (rb : InM b) (h : b ≠ 0) : mkB (big a) (big b) = ofR (Rat.divInt a b) := by
 unfold mkB
 rw [iv_big ra, iv_big rb]
 dsimp only
 rw [if_neg h]
def qd (r s : Rat) : Int := ((r.den / Nat.gcd r.den s.den : Nat) : Int)
theorem qd_mul (r s : Rat) : (r.den : Int) = qd r s * (Nat.gcd r.den s.den : Nat) := by
 unfold qd
 have := Nat.div_mul_cancel (Nat.gcd_dvd_left r.den s.den)
 rw [← Int.natCast_mul, this]
theorem gcd_den_pos (r s : Rat) : (0 : Int) < (Nat.gcd r.den s.den : Nat) := by
 have := Nat.gcd_pos_of_pos_left s.den (show 0 < r.den from r.den_pos)
 omega
theorem qd_pos (r s : Rat) : 0 < qd r s := by
 have h := qd_mul r s
 have h0 := den_pos r
 have h1 := gcd_den_pos r s
 rcases (by omega : qd r s ≤ 0 ∨ 0 < qd r s) with h2 | h2
 ·have := Int.mul_nonpos_of_nonpos_of_nonneg h2 (Int.le_of_lt h1)
  omega
 ·exact h2
theorem qd_le (r s : Rat) : qd r s ≤ r.den := by
 unfold qd
 have := Nat.div_le_self r.den (Nat.gcd r.den s.den)
 omega
theorem qd_comm (r s : Rat) : qd r s * s.den = qd s r * r.den := by
 have h1 := qd_mul r s
 have h2 := qd_mul s r
 rw [Nat.gcd_comm] at h2
 rw [h1, h2]
 grind
abbrev plus := fun a b : Int => some (a + b)
noncomputable def addR (r s : Rat) : Frc := mkB (two plus (big (r.num * qd s r)) (big (s.num * qd r s))) (big (qd r s * s.den))
theorem two_comm (x y : Big) : two plus x y = two plus y x := by
 unfold two
 cases iv x <;> cases iv y <;> simp [plus, Int.add_comm]
theorem addR_comm (r s : Rat) : addR r s = addR s r := by
 unfold addR
 rw [two_comm, qd_comm]
theorem toB_some (z : Int) : toB (some z) = big z := rfl
theorem addR_ok {r s : Rat} (h1 : InM (r.num * qd s r)) (h2 : InM (s.num * qd r s)) (h3 : InM (r.num * qd s r + s.num * qd r s)) (h4 : InM (qd r s * s.den)) : addR r s = ofR (r + s) := by
 unfold addR
 rw [two_big h1 h2, toB_some, mkB_big h3 h4 (by have := Int.mul_pos (qd_pos r s) (den_pos s); omega), sum_q r s (qd_mul r s) (by have := qd_mul s r; rwa [Nat.gcd_comm] at this)]
theorem mkB_bad1 {x y : Big} (h : iv x = none) : mkB x y = bf := by unfold mkB; rw [h]
theorem mkB_bad2 {x y : Big} (h : iv y = none) : mkB x y = bf := by unfold mkB; rw [h]; cases iv x <;> rfl
theorem iv_out {z : Int} (h : ¬ InM z) : iv (big z) = none := by rw [big_out h, iv_bad]
theorem qd_in {r s : Rat} (h : fits r) : InM (qd r s) := by
 have := qd_pos r s
 have := qd_le r s
 have := h.2.2
 have := MM_pos
 constructor <;> omega
theorem fq_den (r s : Rat) : fq (r.den : Int) (Nat.gcd r.den s.den : Nat) = qd r s := by
 have := fq_mul (q := qd r s) (g := (Nat.gcd r.den s.den : Nat)) (by have := gcd_den_pos r s; omega)
 rwa [← qd_mul] at this
theorem gcd_in {r s : Rat} (h : fits r) : InM (Nat.gcd r.den s.den : Nat) := by
 have := Nat.gcd_le_left s.den (show 0 < r.den from r.den_pos)
 have := h.2.2
 have := MM_pos
 constructor <;> omega
theorem Add_f {x y : Frc} (hx : inF x) (hy : inF y) : q_Add_S FF x y = some (bi addR x y) := by
 refine Yld.eq ?_
 unfold q_Add_S
 refine Yld.bindE (Good_f hx) ?_
 cases hq : qF x with
 | none => rw [bi_none1 hq]; exact Yld.g0 rfl (Yld.ift rfl (Yld.bindE Bad_f (Yld.some rfl)))
 | some r =>
  obtain ⟨hf, rfl⟩ := qF_some hx hq
  refine Yld.g1 rfl (Yld.bindE (Good_f hy) ?_)
  cases hq2 : qF y with
  | none => rw [bi_none2 hq2]; exact Yld.ift rfl (Yld.bindE Bad_f (Yld.some rfl))
  | some s =>
   obtain ⟨hs, rfl⟩ := qF_some hy hq2
   rw [bi_some hq hq2, mk_N, mk_D, mk_N, mk_D]
   have e1 := fq_den r s
   have e2 := fq_den s r
   rw [Nat.gcd_comm] at e2
   have hg := gcd_den_pos r s
   have gi := gcd_in (s := s) hf
   refine Yld.iff rfl (Yld.bindE (Gcd_v hf.2 hs.2) ?_)
   rw [Int.natAbs_natCast, Int.natAbs_natCast]
   refine Yld.bindE (Quo_v hf.2 gi (by omega)) (Yld.bindE (Quo_v hs.2 gi (by omega)) ?_)
   rw [e1, e2]
   refine Yld.bindE (Mul_v hf.1 (qd_in hs)) (Yld.bindE (Mul_v hs.1 (qd_in hf)) (Yld.bindE (Add_y FF1 (big_in _) (big_in _)) (Yld.bindE (Mul_v (qd_in hf) hs.2) (Yld.bindE (Make_f (two_in _ _ _) (big_in _)) (Yld.some rfl)))))
noncomputable def subR (r s : Rat) : Frc := addR r (-s)
theorem Sub_f {x y : Frc} (hx : inF x) (hy : inF y) : q_Sub_S FF x y = some (bi subR x y) := by
 refine Yld.eq ?_
 unfold q_Sub_S
 refine Yld.bindE (Neg_f hy) (Yld.bindE (Add_f hx (un_in (fun r => ofR_in _) _)) (Yld.some ?_))
 cases hq2 : qF y with
 | none => rw [un_none hq2, bi_none2 hq2, bi_none2 qF_bf]
 | some s =>
  obtain ⟨hs, rfl⟩ := qF_some hy hq2
  rw [un_some hq2, ofR_fits (neg_fits hs)]
  cases hq : qF x with
  | none => rw [bi_none1 hq, bi_none1 hq]
  | some r => rw [bi_some hq hq2, bi_some hq (qF_mk (neg_fits hs))]; rfl
theorem prod_fits {r s : Rat} (hr : fits r) (hs : fits s) : fits (Rat.divInt r.num s.den) ∧ fits (Rat.divInt s.num r.den) :=
 ⟨red_fits (by have := den_pos s; omega) hr.1 hs.2, red_fits (by have := den_pos r; omega) hs.1 hr.2⟩
noncomputable def mulR (r s : Rat) : Frc := ofR (r * s)
theorem Mul_f {x y : Frc} (hx : inF x) (hy : inF y) : q_Mul_S FF x y = some (bi mulR x y) := by
 refine Yld.eq ?_
 unfold q_Mul_S
 refine Yld.bindE (Good_f hx) ?_
 cases hq : qF x with
 | none => rw [bi_none1 hq]; exact Yld.g0 rfl (Yld.ift rfl (Yld.bindE Bad_f (Yld.some rfl)))
 | some r =>
  obtain ⟨hf, rfl⟩ := qF_some hx hq
  refine Yld.g1 rfl (Yld.bindE (Good_f hy) ?_)
  cases hq2 : qF y with
  | none => rw [bi_none2 hq2]; exact Yld.ift rfl (Yld.bindE Bad_f (Yld.some rfl))
  | some s =>
   obtain ⟨hs, rfl⟩ := qF_some hy hq2
   rw [bi_some hq hq2, mk_N, mk_D, mk_N, mk_D]
   have h0 := den_pos r
   have h1 := den_pos s
   obtain ⟨fa, fb⟩ := prod_fits hf hs
   have hp := prod_q r s
   refine Yld.iff rfl (Yld.bindE (Make_f (big_in _) (big_in _)) (Yld.bindE (Make_f (big_in _) (big_in _)) ?_))
   rw [mkB_big hf.1 hs.2 (by omega), mkB_big hs.1 hf.2 (by omega), ofR_fits fa, ofR_fits fb, mk_N, mk_D, mk_N, mk_D]
   refine Yld.bindE (Mul_v fa.1 fb.1) (Yld.bindE (Mul_v fa.2 fb.2) ?_)
   rw [← hp.1, ← hp.2, big_Bad, big_Bad]
   unfold mulR
   by_cases h : fits (r * s)
   ·rw [ofR_fits h, decide_eq_true h.1, decide_eq_true h.2]
    exact Yld.iff rfl (Yld.some rfl)
   ·rw [ofR_not h]
    refine Yld.ift ?_ (Yld.bindE Bad_f (Yld.some rfl))
    by_cases h2 : InM (r * s).num
    ·have h3 : ¬ InM (r * s).den := fun h3 => h ⟨h2, h3⟩
     simp [h3]
    ·simp [h2]
theorem inv_r (s : Rat) : Rat.divInt s.den s.num = s⁻¹ := (Rat.inv_def s).symm
noncomputable def divR (r s : Rat) : Frc := if s.num = 0 then bf else ofR (r / s)
theorem divR_in (r s : Rat) : inF (divR r s) := by unfold divR; split; exact bf_in; exact ofR_in _
theorem mkB_zero {a : Int} {x : Big} : mkB x (big 0) = bf := by
 unfold mkB
 rw [iv_big zero_InM]
 cases iv x with
 | none => rfl
 | some a => dsimp only; rw [if_pos rfl]
theorem inv_fits {s : Rat} (h : s.num ≠ 0) (hs : fits s) : fits s⁻¹ := by rw [← inv_r]; exact red_fits h hs.2 hs.1
theorem mkB_inv {s : Rat} (hs : fits s) (h : s.num ≠ 0) : mkB (big s.den) (big s.num) = mk s⁻¹ := by
 rw [mkB_big hs.2 hs.1 h, inv_r, ofR_fits (inv_fits h hs)]
theorem Div_f {x y : Frc} (hx : inF x) (hy : inF y) : q_Div_S FF x y = some (bi divR x y) := by
 refine Yld.eq ?_
 unfold q_Div_S
 refine Yld.bindE (Good_f hy) ?_
 cases hq2 : qF y with
 | none => rw [bi_none2 hq2]; exact Yld.ift rfl (Yld.bindE Bad_f (Yld.some rfl))
 | some s =>
  obtain ⟨hs, rfl⟩ := qF_some hy hq2
  refine Yld.iff rfl ?_
  rw [mk_N, mk_D]
  refine Yld.bindE (Make_f (big_in _) (big_in _)) (Yld.bindE (Mul_f hx (mkB_in _ _)) (Yld.some ?_))
  cases hq : qF x with
  | none => rw [bi_none1 hq, bi_none1 hq]
  | some r =>
   rw [bi_some hq hq2]
   unfold divR
   by_cases h : s.num = 0
   ·rw [if_pos h, h, mkB_zero (a := 0), bi_none2 qF_bf]
   ·rw [if_neg h, mkB_inv hs h, bi_some hq (qF_mk (inv_fits h hs))]
    unfold mulR
    rw [Rat.div_def]
theorem Sign_f {x : Frc} (hx : inF x) : q_Sign_S FF x = some (match qF x with | some r => sgn r.num | none => 0) := by
 refine Yld.eq ?_
 unfold q_Sign_S
 refine Yld.bindE (Good_f hx) ?_
 cases hq : qF x with
 | none => exact Yld.ift rfl (Yld.some rfl)
 | some r =>
  obtain ⟨hf, rfl⟩ := qF_some hx hq
  exact Yld.iff rfl (Yld.bindE (Sign_v hf.1) (Yld.some rfl))
theorem floor_fq (r : Rat) : fq r.num r.den = r.floor := by
 rw [Rat.floor_def]
 exact (fq_fr_pos r.num (den_pos r)).1
def unB (f : Rat → Int) (x : Frc) : Big := match qF x with
 | some r => big (f r)
 | none => bad
theorem unB_none {f : Rat → Int} {x : Frc} (h : qF x = none) : unB f x = bad := by unfold unB; rw [h]
theorem unB_some {f : Rat → Int} {x : Frc} {r : Rat} (h : qF x = some r) : unB f x = big (f r) := by unfold unB; rw [h]
theorem unB_in (f : Rat → Int) (x : Frc) : inB (unB f x) := by unfold unB; split; exact big_in _; exact bad_in
theorem floor_in {r : Rat} (h : fits r) : InM r.floor := by
 rw [← floor_fq]
 exact fq_rng (by have := den_pos r; omega) h.1
theorem Floor_f {x : Frc} (hx : inF x) : q_Floor_S FF x = some (unB Rat.floor x) := by
 refine Yld.eq ?_
 unfold q_Floor_S
 refine Yld.bindE (Good_f hx) ?_
 cases hq : qF x with
 | none => rw [unB_none hq]; exact Yld.ift rfl (Yld.bindE (Bad_y FF) (Yld.some rfl))
 | some r =>
  obtain ⟨hf, rfl⟩ := qF_some hx hq
  rw [unB_some hq, mk_N, mk_D]
  refine Yld.iff rfl (Yld.bindE (Quo_v hf.1 hf.2 (by have := den_pos r; omega)) (Yld.some ?_))
  rw [floor_fq]
theorem ceil_in {r : Rat} (h : fits r) : InM r.ceil := by
 have := floor_in (neg_fits h)
 rw [Rat.ceil_eq_neg_floor_neg]
 obtain ⟨h1, h2⟩ := this
 constructor <;> omega
theorem Ceil_f {x : Frc} (hx : inF x) : q_Ceil_S FF x = some (unB Rat.ceil x) := by
 refine Yld.eq ?_
 unfold q_Ceil_S
 refine Yld.bindE (Neg_f hx) (Yld.bindE (Floor_f (un_in (fun r => ofR_in _) _)) (Yld.bindE (Neg_y FF1 (unB_in _ _)) (Yld.some ?_)))
 cases hq : qF x with
 | none => rw [un_none hq, unB_none hq, unB_none qF_bf]; rfl
 | some r =>
  obtain ⟨hf, rfl⟩ := qF_some hx hq
  rw [un_some hq, unB_some hq, ofR_fits (neg_fits hf), unB_some (qF_mk (neg_fits hf)), one_big (floor_in (neg_fits hf)), Rat.ceil_eq_neg_floor_neg]; rfl
theorem Whole_f {n : Big} (hn : inB n) : q_Whole_S FF n = some (mkB n (big 1)) := by
 unfold q_Whole_S
 rw [one_y, Option.bind_some, Make_f hn (big_in 1)]; rfl
theorem int_nd (z : Int) : ((z : Rat)).num = z ∧ ((z : Rat)).den = 1 := ⟨rfl, rfl⟩
theorem int_fits {z : Int} (h : InM z) : fits (z : Rat) := by
 refine ⟨by rw [(int_nd z).1]; exact h, ?_⟩
 rw [(int_nd z).2]
 exact one_InM
theorem divInt_one (z : Int) : Rat.divInt z 1 = (z : Rat) := by
 rw [divInt_q]
 have : ((1 : Int) : Rat) = 1 := rfl
 rw [this, Rat.div_def]
 grind
theorem mkB_one {z : Int} (h : InM z) : mkB (big z) (big 1) = mk (z : Rat) := by
 rw [mkB_big h one_InM (by decide), divInt_one, ofR_fits (int_fits h)]
theorem in64_M {n : Int} (h : -9223372036854775808 ≤ n ∧ n ≤ 9223372036854775807) : InM n := by
 have := MM_big
 constructor <;> omega
theorem Of_f {n : Int} (h : -9223372036854775808 ≤ n ∧ n ≤ 9223372036854775807) : q_Of_S FF n = some (mk (n : Rat)) := by
 unfold q_Of_S
 rw [Of_v h.1 h.2, Option.bind_some, Whole_f (big_in _), mkB_one (in64_M h)]; rfl
end Go.Proofs.YtdjnlmmhbeeihaaGreatDoor

namespace Go.Proofs.YtdjnlmmhbeeihaaGreatDoor
open Go Go.Sk
set_option linter.unusedSimpArgs false
set_option linter.unusedVariables false
theorem rSign_v {a : Int} (ra : InM a) : r3_Sign_S FF (big a) = some (sgn a) := by rw [rSign_y FF2 (big_in a), iv_big ra]
theorem rMul_v {a b : Int} (ra : InM a) (rb : InM b) : r3_Mul_S FF (big a) (big b) = some (big (a * b)) := by rw [rMul_y FF2 (big_in a) (big_in b), two_big ra rb]; rfl
theorem rQuo_v {a b : Int} (ra : InM a) (rb : InM b) (h : b ≠ 0) : r3_Quo_S FF (big a) (big b) = some (big (fq a b)) := by rw [rQuo_y FF2 (big_in a) (big_in b), two_big ra rb]; simp only [quoO, h, if_false]; rfl
theorem rOf_v {n : Int} (h0 : -9223372036854775808 ≤ n) (h1 : n ≤ 9223372036854775807) : r3_Of_S FF n = some (big n) := rOf_y FF2 h0 h1
theorem rone_y : r4_one_S FF = some (big 1) := by
 unfold r4_one_S
 rw [rOf_v (by decide) (by decide)]; rfl
theorem rBad_f : r4_Bad_S FF = some bf := by
 unfold r4_Bad_S
 rw [rBad_y, Option.bind_some, rone_y]; rfl
theorem rGood_f {x : Frc} (hx : inF x) : r4_Good_S FF x = some (qF x).isSome := by
 refine Yld.eq ?_
 unfold r4_Good_S qF
 refine Yld.bindE (rGood_y FF2 hx.1) ?_
 cases hn : iv x.N with
 | none =>
  rw [iv_none hn]
  exact Yld.g0 rfl (Yld.ift rfl (Yld.some rfl))
 | some n =>
  obtain ⟨gn, en, rn⟩ := iv_some hx.1 hn
  rw [gn]
  refine Yld.g1 rfl (Yld.bindE (rGood_y FF2 hx.2) ?_)
  cases hd : iv x.D with
  | none =>
   rw [iv_none hd]
   exact Yld.ift rfl (Yld.some rfl)
  | some d =>
   obtain ⟨gd, ed, rd⟩ := iv_some hx.2 hd
   rw [gd, en, ed]
   refine Yld.iff rfl (Yld.bindE (rSign_v rd) ?_)
   rw [sgn_pos]
   by_cases h0 : 0 < d
   ·rw [decide_eq_true h0]
    refine Yld.g1 rfl (Yld.bindE (rGcd_v rn rd) (Yld.g1 rfl (Yld.bindE rone_y (Yld.some ?_))))
    have hg : InM (Nat.gcd n.natAbs d.natAbs : Nat) := by
     have := Nat.gcd_le_right n.natAbs (show 0 < d.natAbs by omega)
     have := rd.1; have := rd.2
     constructor <;> omega
    have e : (big (Nat.gcd n.natAbs d.natAbs : Nat) = big 1) = (Nat.gcd n.natAbs d.natAbs = 1) := by
     rw [eq_iff_iff, big_inj hg one_InM]; omega
    simp only [e]
    by_cases h1 : Nat.gcd n.natAbs d.natAbs = 1
    ·simp [h1, h0]
    ·simp [h1]
   ·rw [decide_eq_false h0]
    refine Yld.g0 rfl (Yld.g0 rfl (Yld.some ?_))
    simp [h0]
theorem rMake_f {n d : Big} (hn : inB n) (hd : inB d) : r4_Make_S FF n d = some (mkB n d) := by
 refine Yld.eq ?_
 unfold r4_Make_S mkB
 refine Yld.bindE (rGood_y FF2 hn) ?_
 cases ha : iv n with
 | none =>
  rw [iv_none ha]
  exact Yld.g0 rfl (Yld.g0 rfl (Yld.ift rfl (Yld.bindE rBad_f (Yld.some rfl))))
 | some a =>
  obtain ⟨ga, rfl, ra⟩ := iv_some hn ha
  rw [ga]
  refine Yld.g1 rfl (Yld.bindE (rGood_y FF2 hd) ?_)
  cases hb : iv d with
  | none =>
   rw [iv_none hb]
   exact Yld.g0 rfl (Yld.ift rfl (Yld.bindE rBad_f (Yld.some rfl)))
  | some b =>
   obtain ⟨gb, rfl, rb⟩ := iv_some hd hb
   rw [gb]
   refine Yld.g1 rfl (Yld.bindE (rSign_v rb) ?_)
   rw [sgn_zero]
   by_cases h0 : b = 0
   ·rw [decide_eq_true h0]
    exact Yld.ift rfl (Yld.bindE rBad_f (Yld.some (by simp [h0])))
   ·rw [decide_eq_false h0]
    have hg : InM (Nat.gcd a.natAbs b.natAbs : Nat) := by
     have := Nat.gcd_le_right a.natAbs (show 0 < b.natAbs by omega)
     have := rb.1; have := rb.2
     constructor <;> omega
    have hgs : InM (gcdS a b) := by unfold gcdS; split <;> (have := hg.1; have := hg.2; constructor <;> omega)
    obtain ⟨g0, e1, e2⟩ := red (n := a) h0
    refine Yld.iff rfl (Yld.bindE (rGcd_v ra rb) (Yld.bind (P := fun g => g = big (gcdS a b)) (Yld.bindE (rSign_v rb) ?_) ?_))
    ·rw [sgn_neg]
     unfold gcdS
     refine Yld.ite (fun h => ?_) (fun h => ?_)
     ·rw [if_pos (of_decide_eq_true h), rNeg_y FF2 (big_in _), one_big hg]; exact Yld.some rfl
     ·rw [if_neg (of_decide_eq_false h)]; exact Yld.some rfl
    ·rintro g rfl
     refine Yld.bindE (rQuo_v ra hgs g0) (Yld.bindE (rQuo_v rb hgs g0) (Yld.some ?_))
     dsimp only
     rw [if_neg h0, ofR_fits (red_fits h0 ra rb)]
     unfold mk
     have f1 : fq a (gcdS a b) = (Rat.divInt a b).num := by
      have := fq_mul (q := (Rat.divInt a b).num) g0
      rwa [e1] at this
     have f2 : fq b (gcdS a b) = ((Rat.divInt a b).den : Int) := by
      have := fq_mul (q := ((Rat.divInt a b).den : Int)) g0
      rwa [e2] at this
     rw [f1, f2]
theorem rNeg_f {x : Frc} (hx : inF x) : r4_Neg_S FF x = some (un (fun r => ofR (-r)) x) := by
 refine Yld.eq ?_
 unfold r4_Neg_S
 refine Yld.bindE (rGood_f hx) ?_
 cases hq : qF x with
 | none => rw [un_none hq]; exact Yld.ift rfl (Yld.bindE rBad_f (Yld.some rfl))
 | some r =>
  obtain ⟨hf, rfl⟩ := qF_some hx hq
  rw [un_some hq, ofR_fits (neg_fits hf), mk_N, mk_D]
  refine Yld.iff rfl (Yld.bindE (x := big (-r.num)) (by rw [rNeg_y FF2 (big_in _), one_big hf.1]; rfl) (Yld.some ?_))
  unfold mk
  rw [(neg_nd r).1, (neg_nd r).2]
theorem rAdd_f {x y : Frc} (hx : inF x) (hy : inF y) : r4_Add_S FF x y = some (bi addR x y) := by
 refine Yld.eq ?_
 unfold r4_Add_S
 refine Yld.bindE (rGood_f hx) ?_
 cases hq : qF x with
 | none => rw [bi_none1 hq]; exact Yld.g0 rfl (Yld.ift rfl (Yld.bindE rBad_f (Yld.some rfl)))
 | some r =>
  obtain ⟨hf, rfl⟩ := qF_some hx hq
  refine Yld.g1 rfl (Yld.bindE (rGood_f hy) ?_)
  cases hq2 : qF y with
  | none => rw [bi_none2 hq2]; exact Yld.ift rfl (Yld.bindE rBad_f (Yld.some rfl))
  | some s =>
   obtain ⟨hs, rfl⟩ := qF_some hy hq2
   rw [bi_some hq hq2, mk_N, mk_D, mk_N, mk_D]
   have e1 := fq_den r s
   have e2 := fq_den s r
   rw [Nat.gcd_comm] at e2
   have hg := gcd_den_pos r s
   have gi := gcd_in (s := s) hf
   refine Yld.iff rfl (Yld.bindE (rGcd_v hf.2 hs.2) ?_)
   rw [Int.natAbs_natCast, Int.natAbs_natCast]
   refine Yld.bindE (rQuo_v hf.2 gi (by omega)) (Yld.bindE (rQuo_v hs.2 gi (by omega)) ?_)
   rw [e1, e2]
   refine Yld.bindE (rMul_v hf.1 (qd_in hs)) (Yld.bindE (rMul_v hs.1 (qd_in hf)) (Yld.bindE (rAdd_y FF2 (big_in _) (big_in _)) (Yld.bindE (rMul_v (qd_in hf) hs.2) (Yld.bindE (rMake_f (two_in _ _ _) (big_in _)) (Yld.some rfl)))))
theorem rSub_f {x y : Frc} (hx : inF x) (hy : inF y) : r4_Sub_S FF x y = some (bi subR x y) := by
 refine Yld.eq ?_
 unfold r4_Sub_S
 refine Yld.bindE (rNeg_f hy) (Yld.bindE (rAdd_f hx (un_in (fun r => ofR_in _) _)) (Yld.some ?_))
 cases hq2 : qF y with
 | none => rw [un_none hq2, bi_none2 hq2, bi_none2 qF_bf]
 | some s =>
  obtain ⟨hs, rfl⟩ := qF_some hy hq2
  rw [un_some hq2, ofR_fits (neg_fits hs)]
  cases hq : qF x with
  | none => rw [bi_none1 hq, bi_none1 hq]
  | some r => rw [bi_some hq hq2, bi_some hq (qF_mk (neg_fits hs))]; rfl
theorem rMul_f {x y : Frc} (hx : inF x) (hy : inF y) : r4_Mul_S FF x y = some (bi mulR x y) := by
 refine Yld.eq ?_
 unfold r4_Mul_S
 refine Yld.bindE (rGood_f hx) ?_
 cases hq : qF x with
 | none => rw [bi_none1 hq]; exact Yld.g0 rfl (Yld.ift rfl (Yld.bindE rBad_f (Yld.some rfl)))
 | some r =>
  obtain ⟨hf, rfl⟩ := qF_some hx hq
  refine Yld.g1 rfl (Yld.bindE (rGood_f hy) ?_)
  cases hq2 : qF y with
  | none => rw [bi_none2 hq2]; exact Yld.ift rfl (Yld.bindE rBad_f (Yld.some rfl))
  | some s =>
   obtain ⟨hs, rfl⟩ := qF_some hy hq2
   rw [bi_some hq hq2, mk_N, mk_D, mk_N, mk_D]
   have h0 := den_pos r
   have h1 := den_pos s
   obtain ⟨fa, fb⟩ := prod_fits hf hs
   have hp := prod_q r s
   refine Yld.iff rfl (Yld.bindE (rMake_f (big_in _) (big_in _)) (Yld.bindE (rMake_f (big_in _) (big_in _)) ?_))
   rw [mkB_big hf.1 hs.2 (by omega), mkB_big hs.1 hf.2 (by omega), ofR_fits fa, ofR_fits fb, mk_N, mk_D, mk_N, mk_D]
   refine Yld.bindE (rMul_v fa.1 fb.1) (Yld.bindE (rMul_v fa.2 fb.2) ?_)
   rw [← hp.1, ← hp.2]
   refine Yld.bindE (rMake_f (big_in _) (big_in _)) (Yld.some ?_)
   unfold mulR
   by_cases h : fits (r * s)
   ·rw [mkB_big h.1 h.2 (by have := den_pos (r * s); omega), Rat.num_divInt_den]
   ·rw [ofR_not h]
    by_cases h2 : InM (r * s).num
    ·exact mkB_bad2 (iv_out fun h3 => h ⟨h2, h3⟩)
    ·exact mkB_bad1 (iv_out h2)
theorem rDiv_f {x y : Frc} (hx : inF x) (hy : inF y) : r4_Div_S FF x y = some (bi divR x y) := by
 refine Yld.eq ?_
 unfold r4_Div_S
 refine Yld.bindE (rGood_f hy) ?_
 cases hq2 : qF y with
 | none => rw [bi_none2 hq2]; exact Yld.ift rfl (Yld.bindE rBad_f (Yld.some rfl))
 | some s =>
  obtain ⟨hs, rfl⟩ := qF_some hy hq2
  refine Yld.iff rfl ?_
  rw [mk_N, mk_D]
  refine Yld.bindE (rMake_f (big_in _) (big_in _)) (Yld.bindE (rMul_f hx (mkB_in _ _)) (Yld.some ?_))
  cases hq : qF x with
  | none => rw [bi_none1 hq, bi_none1 hq]
  | some r =>
   rw [bi_some hq hq2]
   unfold divR
   by_cases h : s.num = 0
   ·rw [if_pos h, h, mkB_zero (a := 0), bi_none2 qF_bf]
   ·rw [if_neg h, mkB_inv hs h, bi_some hq (qF_mk (inv_fits h hs))]
    unfold mulR
    rw [Rat.div_def]
theorem rSign_f {x : Frc} (hx : inF x) : r4_Sign_S FF x = some (match qF x with | some r => sgn r.num | none => 0) := by
 refine Yld.eq ?_
 unfold r4_Sign_S
 refine Yld.bindE (rGood_f hx) ?_
 cases hq : qF x with
 | none => exact Yld.ift rfl (Yld.some rfl)
 | some r =>
  obtain ⟨hf, rfl⟩ := qF_some hx hq
  exact Yld.iff rfl (Yld.bindE (rSign_v hf.1) (Yld.some rfl))
theorem rFloor_f {x : Frc} (hx : inF x) : r4_Floor_S FF x = some (unB Rat.floor x) := by
 refine Yld.eq ?_
 unfold r4_Floor_S
 refine Yld.bindE (rGood_f hx) ?_
 cases hq : qF x with
 | none => rw [unB_none hq]; exact Yld.ift rfl (Yld.bindE (rBad_y FF) (Yld.some rfl))
 | some r =>
  obtain ⟨hf, rfl⟩ := qF_some hx hq
  rw [unB_some hq, mk_N, mk_D]
  refine Yld.iff rfl (Yld.bindE (rQuo_v hf.1 hf.2 (by have := den_pos r; omega)) (Yld.some ?_))
  rw [floor_fq]
theorem rCeil_f {x : Frc} (hx : inF x) : r4_Ceil_S FF x = some (unB Rat.ceil x) := by
 refine Yld.eq ?_
 unfold r4_Ceil_S
 refine Yld.bindE (rNeg_f hx) (Yld.bindE (rFloor_f (un_in (fun r => ofR_in _) _)) (Yld.bindE (rNeg_y FF2 (unB_in _ _)) (Yld.some ?_)))
 cases hq : qF x with
 | none => rw [un_none hq, unB_none hq, unB_none qF_bf]; rfl
 | some r =>
  obtain ⟨hf, rfl⟩ := qF_some hx hq
  rw [un_some hq, unB_some hq, ofR_fits (neg_fits hf), unB_some (qF_mk (neg_fits hf)), one_big (floor_in (neg_fits hf)), Rat.ceil_eq_neg_floor_neg]; rfl
theorem rWhole_f {n : Big} (hn : inB n) : r4_Whole_S FF n = some (mkB n (big 1)) := by
 unfold r4_Whole_S
 rw [rone_y, Option.bind_some, rMake_f hn (big_in 1)]; rfl
theorem rOf_f {n : Int} (h : -9223372036854775808 ≤ n ∧ n ≤ 9223372036854775807) : r4_Of_S FF n = some (mk (n : Rat)) := by
 unfold r4_Of_S
 rw [rOf_v h.1 h.2, Option.bind_some, rone_y, Option.bind_some, rMake_f (big_in _) (big_in _), mkB_one (in64_M h)]; rfl
end Go.Proofs.YtdjnlmmhbeeihaaGreatDoor

namespace Go.Sk
set_option linter.unusedSimpArgs false
set_option linter.unusedVariables false
def sim : Nat → Rat → Rat → Rat
 | 0, _, _ => 0
 | n + 1, r, s => if (r.ceil : Rat) ≤ s then r.ceil else r.floor + 1 / sim n (1 / (s - r.floor)) (1 / (r - r.floor))
theorem num_pos {r : Rat} (h : 0 < r) : 0 < r.num := by
 rw [Rat.lt_iff] at h
 have := den_pos r
 simpa using h
theorem num_pos' {r : Rat} (h : 0 < r.num) : 0 < r := by
 rw [Rat.lt_iff]
 simpa using h
theorem inv_nd {r : Rat} (h : 0 < r) : (1 / r).num = r.den ∧ ((1 / r).den : Int) = r.num := by
 have h0 := num_pos h
 have h1 := den_pos r
 have e : 1 / r = Rat.divInt r.den r.num := by
  rw [Rat.div_def, Rat.one_mul, Rat.inv_def]
 rw [e]
 refine divInt_cop h0 ?_
 have := r.reduced
 rw [Nat.gcd_comm, Int.natAbs_natCast]
 exact this
theorem add_nd (r : Rat) (f : Int) : (r + (f : Rat)).num = r.num + f * r.den ∧ (r + (f : Rat)).den = r.den := by
  have h1 := den_pos r
  have e : r + (f : Rat) = Rat.divInt (r.num + f * r.den) r.den := by
    have er := rat_q r
    rw [divInt_q, Rat.intCast_add, Rat.intCast_mul]
    have h2 : ((r.den : Int) : Rat) ≠ 0 := by have : (r.den : Int) ≠ 0 := by omega
                                              simpa using this
    generalize ((r.den : Int) : Rat) = D1 at *
    generalize (r.num : Rat) = N1 at *
    rw [er]
    grind
  rw [e]
  have hc : Nat.gcd (r.num + f * r.den).natAbs (r.den : Int).natAbs = 1 := by
    have := r.reduced
    have e2 : Int.gcd (r.num + f * r.den) r.den = Int.gcd r.num r.den := by rw [Int.gcd_add_mul_right_left]
    exact e2.trans this
  have := divInt_cop h1 hc
  exact ⟨this.1, by have := this.2; omega⟩
theorem sub_nd (r : Rat) (f : Int) : (r - (f : Rat)).num = r.num - f * r.den ∧ (r - (f : Rat)).den = r.den := by
 have := add_nd r (-f)
 rw [Rat.intCast_neg, ← Rat.sub_eq_add_neg] at this
 rw [this.1, this.2]
 exact ⟨by rw [Int.neg_mul]; omega, rfl⟩
theorem inv_pos' {r : Rat} (h : 0 < r) : 0 < 1 / r := by
 rw [Rat.div_def, Rat.one_mul]; exact Rat.inv_pos.2 h
theorem inv_le {r s : Rat} (h : 0 < r) (h2 : r ≤ s) : 1 / s ≤ 1 / r := by
 have hs : 0 < s := by grind
 rw [← Rat.not_lt]
 intro h3
 have e1 : 1 / r * r = 1 := Rat.div_mul_cancel (by grind)
 have e2 : 1 / s * s = 1 := Rat.div_mul_cancel (by grind)
 have i1 := inv_pos' h
 have a1 := Rat.mul_lt_mul_of_pos_right h3 h
 have a2 := Rat.mul_le_mul_of_nonneg_left h2 (Rat.le_of_lt (inv_pos' hs))
 grind
theorem inv_inv' {r : Rat} (h : 0 < r) : 1 / (1 / r) = r := by
 have : r ≠ 0 := by grind
 grind
theorem den_one_le {y : Rat} (h : 0 < y) : y ≤ (y.num : Rat) := by
 rw [Rat.le_iff]
 have h0 := num_pos h
 have h1 := den_pos y
 have : (((y.num : Rat)).num) = y.num ∧ (((y.num : Rat)).den) = 1 := ⟨rfl, rfl⟩
 rw [this.1, this.2]
 have h3 : y.num * 1 ≤ y.num * y.den := Int.mul_le_mul_of_nonneg_left (by omega) (by omega)
 simpa using h3
theorem lt_one_nd {r : Rat} (h : r < 1) : r.num < r.den := by
 rw [Rat.lt_iff] at h
 have : (1 : Rat).num = 1 ∧ (1 : Rat).den = 1 := ⟨rfl, rfl⟩
 rw [this.1, this.2] at h
 simpa using h
structure SimStep (r s : Rat) : Prop where
 lo : (0 : Rat) < r - r.floor
 hi : r - r.floor ≤ s - r.floor
 one : s - r.floor < 1
 fl : 0 ≤ r.floor
theorem simStep {r s : Rat} (h0 : 0 < r) (h1 : r ≤ s) (h : ¬ (r.ceil : Rat) ≤ s) : SimStep r s := by
 have a1 := Rat.floor_le r
 have a2 := Rat.lt_floor_add_one r
 have a3 : (r.ceil : Rat) ≤ (r.floor + 1 : Int) := by
  rw [Rat.intCast_le_intCast, Rat.ceil_le_iff]; exact Rat.le_of_lt a2
 have a4 : r ≠ (r.floor : Rat) := fun e => h (by rw [e, Rat.ceil_intCast, ← e]; exact h1)
 have a5 : 0 ≤ r.floor := Rat.le_floor_iff.2 (by simpa using Rat.le_of_lt h0)
 rw [Rat.intCast_add] at a2 a3
 have e1 : ((1 : Int) : Rat) = 1 := rfl
 rw [e1] at a2 a3
 exact ⟨by grind, by grind, by grind, a5⟩
theorem sim_spec : ∀ (n : Nat) {r s : Rat}, 0 < r → r ≤ s → r.den < n → s.den < n → (r ≤ sim n r s ∧ sim n r s ≤ s) ∧ ∀ y, r ≤ y → y ≤ s → ((sim n r s).den : Int) ≤ y.den ∧ (sim n r s).num ≤ y.num
 | 0, r, s, _, _, hr, _ => absurd hr (Nat.not_lt_zero _)
 | n + 1, r, s, h0, h1, hr, hs => by
  unfold sim
  by_cases h : (r.ceil : Rat) ≤ s
  ·rw [if_pos h]
   refine ⟨⟨Rat.le_ceil, h⟩, fun y hy1 hy2 => ?_⟩
   have y0 : 0 < y := by grind
   have e : ((r.ceil : Rat)).num = r.ceil ∧ ((r.ceil : Rat)).den = 1 := ⟨rfl, rfl⟩
   rw [e.1, e.2]
   refine ⟨by have := den_pos y; omega, Rat.ceil_le_iff.2 ?_⟩
   have := den_one_le y0
   grind
  ·rw [if_neg h]
   obtain ⟨b1, b2, b3, b4⟩ := simStep h0 h1 h
   generalize r.floor = f at *
   have c1 : (0 : Rat) < s - f := by grind
   have n1 := inv_nd c1
   have n2 := inv_nd b1
   have d1 := sub_nd s f
   have d2 := sub_nd r f
   have l1 := lt_one_nd b3
   have l2 := lt_one_nd (r := r - f) (by grind)
   have ih := sim_spec n (inv_pos' c1) (inv_le b1 b2) (by omega) (by omega)
   generalize sim n (1 / (s - f)) (1 / (r - f)) = t at *
   obtain ⟨⟨i1, i2⟩, i3⟩ := ih
   have t0 : 0 < t := by have := inv_pos' c1; grind
   have k1 : 1 / t ≤ s - f := by have := inv_le (inv_pos' c1) i1; rw [inv_inv' c1] at this; exact this
   have k2 : r - f ≤ 1 / t := by have := inv_le t0 i2; rw [inv_inv' b1] at this; exact this
   refine ⟨⟨by grind, by grind⟩, fun y hy1 hy2 => ?_⟩
   have y0 : (0 : Rat) < y - f := by grind
   have m1 := inv_nd y0
   have m2 := sub_nd y f
   have := i3 (1 / (y - f)) (inv_le y0 (by grind)) (inv_le b1 (by grind))
   have m3 := inv_nd t0
   have m4 := add_nd (1 / t) f
   rw [Rat.add_comm (f : Rat), m4.1, m4.2, m3.1, m3.2]
   have q1 : f * t.num ≤ f * y.den := Int.mul_le_mul_of_nonneg_left (by omega) b4
   omega
end Go.Sk

namespace Go.Proofs.YtdjnlmmhbeeihaaGreatDoor
open Go Go.Sk
set_option linter.unusedSimpArgs false
set_option linter.unusedVariables false
theorem rRem_v {a b : Int} (ra : InM a) (rb : InM b) (h : b ≠ 0) : r3_Rem_S FF (big a) (big b) = some (big (fr a b)) := by rw [rRem_y FF2 (big_in a) (big_in b), two_big ra rb]; simp only [remO, h, if_false]; rfl
theorem rCmp_v {a b : Int} (ra : InM a) (rb : InM b) : r3_Cmp_S FF (big a) (big b) = some (cmpZ a b) := by rw [rCmp_y FF2 (big_in a) (big_in b), iv_big ra, iv_big rb]
theorem mk_eq (r : Rat) : mk r = ⟨big r.num, big r.den⟩ := by simp only [mk]
def cmpR (r s : Rat) : Int := if r < s then -1 else if s < r then 1 else 0
theorem cross_r (r s : Rat) : cross r.num r.den s.num s.den = cmpR r s := by
 unfold cross cmpZ cmpR
 simp only [Rat.lt_iff]
def cmpF (x y : Frc) : Int := match qF x, qF y with
 | none, none => 0
 | none, some _ => -1
 | some _, none => 1
 | some r, some s => cmpR r s
theorem cmpZ_rng (a b : Int) : -1 ≤ cmpZ a b ∧ cmpZ a b ≤ 1 := by unfold cmpZ; split <;> (try split) <;> omega
theorem sg_mul {o c : Int} (ho : o = 1 ∨ o = -1) (hc : -1 ≤ c ∧ c ≤ 1) : IntKind.i64.wrap (o * c) = o * c := by
 refine wi64' ?_ ?_ <;> rcases ho with rfl | rfl <;> omega
theorem sgn_rng (z : Int) : -1 ≤ sgn z ∧ sgn z ≤ 1 := by unfold sgn; split <;> (try split) <;> omega
theorem sgn_nn {z : Int} (h : 0 ≤ z) : 0 ≤ sgn z ∧ sgn z ≤ 1 := by unfold sgn; split <;> (try split) <;> omega
theorem dec_sgn {z : Int} : decide (sgn z = 0) = decide (z = 0) := sgn_zero
structure CmpI (c : Int) (p q r s o : Int) : Prop where
 ip : InM p
 iq : InM q
 ir : InM r
 is : InM s
 q0 : 0 < q
 s0 : 0 < s
 o1 : o = 1 ∨ o = -1
 val : o * cross p q r s = c
theorem CmpI.next {c p q r s o : Int} (h : CmpI c p q r s o) (he : p / q = r / s) (h1 : p % q ≠ 0) (h2 : r % s ≠ 0) : CmpI c q (p % q) s (r % s) (-o) := by
 have a0 := Int.emod_nonneg p (show q ≠ 0 by have := h.q0; omega)
 have a1 := Int.emod_lt_of_pos p h.q0
 have b0 := Int.emod_nonneg r (show s ≠ 0 by have := h.s0; omega)
 have b1 := Int.emod_lt_of_pos r h.s0
 have := h.iq.2
 have := h.is.2
 have := MM_pos
 refine ⟨h.iq, ⟨by omega, by omega⟩, h.is, ⟨by omega, by omega⟩, by omega, by omega, by have := h.o1; omega, ?_⟩
 rw [← h.val, cross_next he, Int.neg_mul, Int.mul_neg]
theorem CmpI.start {r s : Rat} (hr : fits r) (hs : fits s) : CmpI (cmpR r s) r.num r.den s.num s.den 1 :=
 ⟨hr.1, hr.2, hs.1, hs.2, den_pos r, den_pos s, .inl rfl, by rw [Int.one_mul, cross_r]⟩
theorem cmpZ_zero {a b : Int} : cmpZ a b = 0 ↔ a = b := by unfold cmpZ; split <;> (try split) <;> omega
def dn (x : Big) : Nat := match iv x with
 | some d => d.toNat
 | none => 0
theorem dn_big {d : Int} (h : InM d) : dn (big d) = d.toNat := by unfold dn; rw [iv_big h]
theorem dn_lt {r : Rat} (h : fits r) : dn (big r.den) < FF := by
 have h1 := h.2.2
 have h2 := FF_MM
 rw [dn_big h.2]
 omega
theorem Cmp_f {x y : Frc} (hx : inF x) (hy : inF y) : q_Cmp_S FF x y = some (cmpF x y) := by
 refine Yld.eq ?_
 unfold q_Cmp_S cmpF
 refine Yld.bindE (Good_f hx) (Yld.bindE (Good_f hy) ?_)
 cases hq : qF x with
 | none =>
  cases hq2 : qF y with
  | none => exact Yld.ift rfl (Yld.some rfl)
  | some s => exact Yld.iff rfl (Yld.ift rfl (Yld.some rfl))
 | some r =>
  cases hq2 : qF y with
  | none => exact Yld.iff rfl (Yld.iff rfl (Yld.ift rfl (Yld.some rfl)))
  | some s =>
   obtain ⟨hr, rfl⟩ := qF_some hx hq
   obtain ⟨hs, rfl⟩ := qF_some hy hq2
   refine Yld.iff rfl (Yld.iff rfl (Yld.iff rfl ?_))
   refine Yld.bind (P := fun z => z = cmpR r s) (Yld.loop (fun st : Frc × Frc × Int => ∃ p q u v, st.1 = ⟨big p, big q⟩ ∧ st.2.1 = ⟨big u, big v⟩ ∧ CmpI (cmpR r s) p q u v st.2.2) (fun st => dn st.1.D) ⟨r.num, r.den, s.num, s.den, mk_eq r, mk_eq s, CmpI.start hr hs⟩ ?_ ?_) (fun z hz => Yld.some hz)
   ·rw [mk_D]; exact dn_lt hr
   ·rintro ⟨_, _, o⟩ ⟨p, q, u, v, rfl, rfl, hI⟩
    dsimp only at hI
    dsimp only [un3]
    have hq0 : q ≠ 0 := by have := hI.q0; omega
    have hv0 : v ≠ 0 := by have := hI.s0; omega
    refine Yld.bindE (Quo_v hI.ip hI.iq hq0) (Yld.bindE (Quo_v hI.ir hI.is hv0) (Yld.bindE (Cmp_v (fq_rng hq0 hI.ip) (fq_rng hv0 hI.ir)) ?_))
    obtain ⟨f1, g1⟩ := fq_fr_pos p hI.q0
    obtain ⟨f2, g2⟩ := fq_fr_pos u hI.s0
    rw [f1, f2]
    refine Yld.ite (fun h => ?_) (fun h => ?_)
    ·have h' : cmpZ (p / q) (u / v) ≠ 0 := of_decide_eq_true h
     refine Yld.some (.inr ⟨_, rfl, ?_⟩)
     rw [sg_mul hI.o1 (cmpZ_rng _ _), ← hI.val, cross_floor hI.q0 hI.s0 h']
    ·have h' : cmpZ (p / q) (u / v) = 0 := by have := of_decide_eq_false h; omega
     have he := cmpZ_zero.1 h'
     refine Yld.bindE (Rem_v hI.ip hI.iq hq0) (Yld.bindE (Rem_v hI.ir hI.is hv0) (Yld.bindE (Sign_v (fr_rng hq0 hI.iq)) (Yld.bindE (Sign_v (fr_rng hv0 hI.is)) ?_)))
     rw [g1, g2, dec_sgn, dec_sgn]
     have a0 := Int.emod_nonneg p hq0
     have b0 := Int.emod_nonneg u hv0
     have a1 := Int.emod_lt_of_pos p hI.q0
     refine Yld.ite (fun h => ?_) (fun h => ?_)
     ·simp only [Bool.or_eq_true, decide_eq_true_eq] at h
      refine Yld.ln (Yld.some (.inr ⟨_, rfl, ?_⟩))
      have c1 := sgn_nn a0
      have c2 := sgn_nn b0
      rw [wi64' (z := sgn (p % q) - sgn (u % v)) (by omega) (by omega), sg_mul hI.o1 (by omega), ← hI.val, cross_end hI.q0 hI.s0 he h]
     ·simp only [Bool.or_eq_false_iff, decide_eq_false_iff_not] at h
      have ho : IntKind.i64.wrap (-o) = -o := by have := hI.o1; exact wi64' (by omega) (by omega)
      have hn := hI.next he h.1 h.2
      refine Yld.some (.inl ⟨_, rfl, ⟨_, _, _, _, rfl, rfl, by dsimp only; rw [ho]; exact hn⟩, ?_⟩)
      dsimp only
      rw [dn_big hI.iq, dn_big hn.iq]
      omega
theorem kept_y (x : Frc) (g : Bool) : r4_kept_S FF x g = some (if g = true then big 0 else bad) := by
 unfold r4_kept_S
 cases g
 ·rw [if_neg (by simp), if_neg (by simp), rBad_y]; rfl
 ·rw [if_pos rfl, if_pos rfl, rOf_v (by decide) (by decide)]; rfl
theorem kept_iv (g : Bool) : iv (if g = true then big 0 else bad) = if g = true then some 0 else none := by
 cases g
 ·rw [if_neg (by simp), if_neg (by simp), iv_bad]
 ·rw [if_pos rfl, if_pos rfl, iv_big zero_InM]
theorem kept_in (g : Bool) : inB (if g = true then big 0 else bad) := by
 cases g
 ·exact bad_in
 ·exact big_in 0
theorem rCmp_f {x y : Frc} (hx : inF x) (hy : inF y) : r4_Cmp_S FF x y = some (cmpF x y) := by
 refine Yld.eq ?_
 unfold r4_Cmp_S cmpF
 refine Yld.bindE (rGood_f hx) (Yld.bindE (rGood_f hy) ?_)
 cases hq : qF x with
 | none =>
  cases hq2 : qF y with
  | none => exact Yld.ift rfl (Yld.bindE (kept_y _ _) (Yld.bindE (kept_y _ _) (Yld.bindE (rCmp_y FF2 (kept_in _) (kept_in _)) (Yld.some (by simp only [kept_iv]; rfl)))))
  | some s => exact Yld.ift rfl (Yld.bindE (kept_y _ _) (Yld.bindE (kept_y _ _) (Yld.bindE (rCmp_y FF2 (kept_in _) (kept_in _)) (Yld.some (by simp only [kept_iv]; rfl)))))
 | some r =>
  cases hq2 : qF y with
  | none => exact Yld.ift rfl (Yld.bindE (kept_y _ _) (Yld.bindE (kept_y _ _) (Yld.bindE (rCmp_y FF2 (kept_in _) (kept_in _)) (Yld.some (by simp only [kept_iv]; rfl)))))
  | some s =>
   obtain ⟨hr, rfl⟩ := qF_some hx hq
   obtain ⟨hs, rfl⟩ := qF_some hy hq2
   refine Yld.iff rfl ?_
   rw [mk_N, mk_D, mk_N, mk_D]
   refine Yld.bind (P := fun z => z = cmpR r s) (Yld.loop (fun st : Int × Arr2Big × Arr2Big => ∃ p q u v, st.2.1 = ⟨big p, big q⟩ ∧ st.2.2 = ⟨big u, big v⟩ ∧ CmpI (cmpR r s) p q u v st.1) (fun st => dn st.2.1.a1) ⟨r.num, r.den, s.num, s.den, rfl, rfl, CmpI.start hr hs⟩ ?_ ?_) (fun z hz => Yld.some hz)
   ·dsimp only; exact dn_lt hr
   ·rintro ⟨o, _, _⟩ ⟨p, q, u, v, rfl, rfl, hI⟩
    dsimp only at hI
    dsimp only [un3]
    have hq0 : q ≠ 0 := by have := hI.q0; omega
    have hv0 : v ≠ 0 := by have := hI.s0; omega
    refine Yld.bindE (rQuo_v hI.ip hI.iq hq0) (Yld.bindE (rQuo_v hI.ir hI.is hv0) (Yld.bindE (rCmp_v (fq_rng hq0 hI.ip) (fq_rng hv0 hI.ir)) ?_))
    obtain ⟨f1, g1⟩ := fq_fr_pos p hI.q0
    obtain ⟨f2, g2⟩ := fq_fr_pos u hI.s0
    rw [f1, f2]
    refine Yld.ite (fun h => ?_) (fun h => ?_)
    ·have h' : cmpZ (p / q) (u / v) ≠ 0 := of_decide_eq_true h
     refine Yld.some (.inr ⟨_, rfl, ?_⟩)
     rw [sg_mul hI.o1 (cmpZ_rng _ _), ← hI.val, cross_floor hI.q0 hI.s0 h']
    ·have h' : cmpZ (p / q) (u / v) = 0 := by have := of_decide_eq_false h; omega
     have he := cmpZ_zero.1 h'
     refine Yld.bindE (rRem_v hI.ip hI.iq hq0) (Yld.bindE (rRem_v hI.ir hI.is hv0) (Yld.bindE (rSign_v (fr_rng hq0 hI.iq)) ?_))
     rw [g1, g2, dec_sgn]
     have a0 := Int.emod_nonneg p hq0
     have b0 := Int.emod_nonneg u hv0
     have a1 := Int.emod_lt_of_pos p hI.q0
     have ru : InM (u % v) := by rw [← g2]; exact fr_rng hv0 hI.is
     have rp : InM (p % q) := by rw [← g1]; exact fr_rng hq0 hI.iq
     have fin : (p % q = 0 ∨ u % v = 0) → IntKind.i64.wrap (o * IntKind.i64.wrap (sgn (p % q) - sgn (u % v))) = cmpR r s := fun h => by
      have c1 := sgn_nn a0
      have c2 := sgn_nn b0
      rw [wi64' (z := sgn (p % q) - sgn (u % v)) (by omega) (by omega), sg_mul hI.o1 (by omega), ← hI.val, cross_end hI.q0 hI.s0 he h]
     by_cases h1 : p % q = 0
     ·rw [decide_eq_true h1]
      exact Yld.g0 rfl (Yld.ift rfl (Yld.bindE (rSign_v rp) (Yld.bindE (rSign_v ru) (Yld.some (.inr ⟨_, rfl, fin (.inl h1)⟩)))))
     ·rw [decide_eq_false h1]
      refine Yld.g1 rfl (Yld.bindE (rSign_v ru) ?_)
      rw [dec_sgn]
      by_cases h2 : u % v = 0
      ·rw [decide_eq_true h2]
       exact Yld.ift rfl (Yld.bindE (rSign_v rp) (Yld.bindE (rSign_v ru) (Yld.some (.inr ⟨_, rfl, fin (.inr h2)⟩))))
      ·rw [decide_eq_false h2]
       have ho : IntKind.i64.wrap (-o) = -o := by have := hI.o1; exact wi64' (by omega) (by omega)
       have hn := hI.next he h1 h2
       refine Yld.iff rfl (Yld.some (.inl ⟨_, rfl, ⟨_, _, _, _, rfl, rfl, by dsimp only; rw [ho]; exact hn⟩, ?_⟩))
       dsimp only
       rw [dn_big hI.iq, dn_big hn.iq]
       omega
end Go.Proofs.YtdjnlmmhbeeihaaGreatDoor

namespace Go.Proofs.YtdjnlmmhbeeihaaGreatDoor
open Go Go.Sk
set_option linter.unusedSimpArgs false
set_option linter.unusedVariables false
theorem qF_ofR_val {a u : Rat} (h : qF (ofR a) = some u) : u = a := by
 rw [qF_ofR] at h
 split at h
 ·exact (Option.some.inj h).symm
 ·cases h
theorem unN_mk {r : Rat} (h : fits r) : un (fun r => ofR (-r)) (mk r) = mk (-r) := by
 rw [un_some (qF_mk h), ofR_fits (neg_fits h)]
theorem cmpR_sw (r s : Rat) : cmpR r s = -cmpR s r := by
 unfold cmpR
 by_cases h1 : r < s
 ·have h2 : ¬ s < r := by grind
  simp [h1, h2]
 ·by_cases h2 : s < r
  ·simp [h1, h2]
  ·simp [h1, h2]
theorem cmpF_some {x y : Frc} {r s : Rat} (h : qF x = some r) (h2 : qF y = some s) : cmpF x y = cmpR r s := by unfold cmpF; rw [h, h2]
theorem cmpR_le {r s : Rat} : cmpR r s ≤ 0 ↔ r ≤ s := by
 unfold cmpR
 by_cases h1 : r < s
 ·simp only [h1, if_true]
  exact ⟨fun _ => Rat.le_of_lt h1, fun _ => by decide⟩
 ·by_cases h2 : s < r
  ·simp only [h1, h2, if_true, if_false]
   exact ⟨fun h => absurd h (by decide), fun h => by grind⟩
  ·simp only [h1, h2, if_false]
   exact ⟨fun _ => by grind, fun _ => by decide⟩
end Go.Proofs.YtdjnlmmhbeeihaaGreatDoor

namespace Go.Proofs.YtdjnlmmhbeeihaaGreatDoor
open Go Go.Sk
set_option linter.unusedSimpArgs false
set_option linter.unusedVariables false
theorem qd_int (s : Rat) (f : Int) : qd s (f : Rat) = s.den ∧ qd (f : Rat) s = 1 := by
 unfold qd
 rw [(int_nd f).2]
 constructor
 ·rw [Nat.gcd_one_right, Nat.div_one]
 ·rw [Nat.gcd_one_left]; rfl
theorem addR_i {s : Rat} {f : Int} (hs : fits s) (h1 : InM (f * s.den)) (h2 : InM (s.num + f * s.den)) : addR s (f : Rat) = mk (s + f) := by
 have e := add_nd s f
 have hq := qd_int s f
 rw [addR_ok (by rw [hq.2, Int.mul_one]; exact hs.1) (by rw [hq.1, (int_nd f).1]; exact h1) (by rw [hq.1, hq.2, (int_nd f).1, Int.mul_one]; exact h2) (by rw [hq.1, (int_nd f).2]; simpa using hs.2)]
 refine ofR_fits ⟨by rw [e.1]; exact h2, by rw [e.2]; exact hs.2⟩
theorem fits_le {r : Rat} {n d : Int} (h0 : 0 < r) (hn : r.num ≤ n) (hd : (r.den : Int) ≤ d) (rn : InM n) (rd : InM d) : fits r := by
 have h1 := num_pos h0
 have h2 := den_pos r
 have h3 := rn.2
 have h4 := rd.2
 have h5 := MM_pos
 exact ⟨⟨by omega, by omega⟩, ⟨by omega, by omega⟩⟩
theorem one_q : ((1 : Int) : Rat) = 1 := rfl
theorem one_div_f {r : Rat} (h : 0 < r) (hf : fits r) : bi divR (mk ((1 : Int) : Rat)) (mk r) = mk (1 / r) ∧ fits (1 / r) := by
 have hn := num_pos h
 have e : 1 / r = r⁻¹ := by rw [Rat.div_def, Rat.one_mul]
 have hfi : fits (1 / r) := by rw [e]; exact inv_fits (by omega) hf
 rw [bi_some (qF_mk (int_fits one_InM)) (qF_mk hf)]
 unfold divR
 rw [if_neg (by omega), one_q, ofR_fits hfi]
 exact ⟨rfl, hfi⟩
structure StepOk (r s : Rat) (n : Nat) : Prop where
 lo' : 0 < r - r.floor
 hi' : 0 < s - r.floor
 fl : 0 ≤ r.floor
 f1 : fits (s - r.floor)
 f2 : fits (r - r.floor)
 sub1 : bi subR (mk s) (mk (r.floor : Rat)) = mk (s - r.floor)
 sub2 : bi subR (mk r) (mk (r.floor : Rat)) = mk (r - r.floor)
 le' : 1 / (s - r.floor) ≤ 1 / (r - r.floor)
 d1 : (1 / (s - r.floor)).den < n
 d2 : (1 / (r - r.floor)).den < n
theorem sub_i {s : Rat} {f : Int} (hs : fits s) (hf : fits (f : Rat)) (h0 : 0 ≤ f) (h1 : (f : Rat) < s) : bi subR (mk s) (mk (f : Rat)) = mk (s - f) ∧ fits (s - f) := by
 have e := sub_nd s f
 have hp : 0 < s - f := by grind
 have hn := num_pos hp
 have hd := den_pos s
 have hm := Int.mul_nonneg h0 (Int.le_of_lt hd)
 have h3 := hs.1.2
 have h4 := MM_pos
 rw [e.1] at hn
 have hfit : fits (s - f) := fits_le hp (by rw [e.1]; omega) (by rw [e.2]; exact Int.le_refl _) hs.1 hs.2
 refine ⟨?_, hfit⟩
 rw [bi_some (qF_mk hs) (qF_mk hf)]
 unfold subR
 rw [← Rat.intCast_neg, addR_i hs ⟨by rw [Int.neg_mul]; omega, by rw [Int.neg_mul]; omega⟩ ⟨by rw [Int.neg_mul]; omega, by rw [Int.neg_mul]; omega⟩, Rat.intCast_neg, ← Rat.sub_eq_add_neg]
theorem stepOk {r s : Rat} {n : Nat} (hr : fits r) (hs : fits s) (h0 : 0 < r) (h1 : r ≤ s) (h : ¬ (r.ceil : Rat) ≤ s) (dr : r.den < n + 1) (ds : s.den < n + 1) : StepOk r s n := by
 obtain ⟨b1, b2, b3, b4⟩ := simStep h0 h1 h
 have ff := int_fits (floor_in hr)
 have c1 : 0 < s - r.floor := by grind
 obtain ⟨s1, s2⟩ := sub_i hs ff b4 (by grind)
 obtain ⟨t1, t2⟩ := sub_i hr ff b4 (by grind)
 have n1 := inv_nd c1
 have n2 := inv_nd b1
 have e1 := sub_nd s r.floor
 have e2 := sub_nd r r.floor
 have l1 := lt_one_nd b3
 have l2 := lt_one_nd (r := r - r.floor) (by grind)
 exact ⟨b1, c1, b4, s2, t2, s1, t1, inv_le b1 b2, by omega, by omega⟩
theorem backOk {r s : Rat} {n : Nat} {t : Rat} (hr : fits r) (ht : fits t) (t0 : 0 < t) (h4 : 0 ≤ r.floor) (hv : (((r.floor : Rat) + 1 / t).den : Int) ≤ r.den ∧ ((r.floor : Rat) + 1 / t).num ≤ r.num) :
  bi addR (mk (r.floor : Rat)) (mk (1 / t)) = mk ((r.floor : Rat) + 1 / t) := by
 have ff := int_fits (floor_in hr)
 have n1 := inv_nd t0
 have ti := (one_div_f t0 ht).2
 rw [bi_some (qF_mk ff) (qF_mk ti), addR_comm]
 have e := add_nd (1 / t) r.floor
 rw [Rat.add_comm] at hv ⊢
 rw [e.1, e.2, n1.1, n1.2] at hv
 have hp := num_pos t0
 have hq := den_pos t
 have hm := Int.mul_nonneg h4 (Int.le_of_lt hp)
 have hm1 := hr.1.2
 have hM := MM_pos
 exact addR_i ti (by rw [n1.2]; constructor <;> omega) (by rw [n1.1, n1.2]; constructor <;> omega)
theorem sim_pos {n : Nat} {r s : Rat} (h0 : 0 < r) (h1 : r ≤ s) (dr : r.den < n) (ds : s.den < n) : 0 < sim n r s := by
 have := (sim_spec n h0 h1 dr ds).1.1
 grind
theorem sim_fits {n : Nat} {r s : Rat} (hr : fits r) (h0 : 0 < r) (h1 : r ≤ s) (dr : r.den < n) (ds : s.den < n) : fits (sim n r s) := by
 obtain ⟨h2, h3⟩ := (sim_spec n h0 h1 dr ds).2 r Rat.le_refl h1
 exact fits_le (sim_pos h0 h1 dr ds) h3 h2 hr.1 hr.2
theorem sim_fuel {n m : Nat} {r s : Rat} (h0 : 0 < r) (h1 : r ≤ s) (dr : r.den < n) (ds : s.den < n) (dr' : r.den < m) (ds' : s.den < m) : sim n r s = sim m r s := by
 have a := sim_spec n h0 h1 dr ds
 have b := sim_spec m h0 h1 dr' ds'
 have c := a.2 _ b.1.1 b.1.2
 have d := b.2 _ a.1.1 a.1.2
 exact Rat.ext (by omega) (by omega)
theorem pos_sgn {r : Rat} (h : 0 < r) : sgn r.num = 1 := by
 have := num_pos h
 unfold sgn
 rw [if_neg (by omega), if_neg (by omega)]
theorem Sign_mk {r : Rat} (h : fits r) : q_Sign_S FF (mk r) = some (sgn r.num) := by rw [Sign_f (mk_in r), qF_mk h]
theorem rSign_mk {r : Rat} (h : fits r) : r4_Sign_S FF (mk r) = some (sgn r.num) := by rw [rSign_f (mk_in r), qF_mk h]
theorem Sign_pos {r : Rat} (h : fits r) (h0 : 0 < r) : q_Sign_S FF (mk r) = some 1 := by rw [Sign_mk h, pos_sgn h0]
theorem ceil_le_f {r s : Rat} : (cmpR (r.ceil : Rat) s ≤ 0) ↔ (r.ceil : Rat) ≤ s := cmpR_le
theorem simple_f : ∀ (n : Nat) {r s : Rat}, fits r → fits s → 0 < r → r ≤ s → r.den < n → s.den < n → r4_simple_R FF n (mk r) (mk s) = some (mk (sim n r s))
 | 0, r, s, _, _, _, _, dr, _ => absurd dr (Nat.not_lt_zero _)
 | n + 1, r, s, hr, hs, h0, h1, dr, ds => by
  refine Yld.eq ?_
  unfold r4_simple_R sim
  have ri := mk_in r
  have si := mk_in s
  have fc := int_fits (ceil_in hr)
  have ff := int_fits (floor_in hr)
  have ci := mk_in (r.ceil : Rat)
  have fi := mk_in (r.floor : Rat)
  have oi := mk_in ((1 : Int) : Rat)
  refine Yld.bindE (rCeil_f ri) (Yld.bindE (rWhole_f (unB_in _ _)) ?_)
  rw [unB_some (qF_mk hr), mkB_one (ceil_in hr)]
  refine Yld.bindE (rCmp_f ci si) ?_
  rw [cmpF_some (qF_mk fc) (qF_mk hs)]
  refine Yld.ite (fun h => ?_) (fun h => ?_)
  ·have h' := ceil_le_f.1 (of_decide_eq_true h)
   rw [if_pos h']
   refine Yld.bindE (rWhole_f (big_in _)) (Yld.some ?_)
   rw [mkB_one (ceil_in hr)]
  ·have h' : ¬ (r.ceil : Rat) ≤ s := fun g => of_decide_eq_false h (ceil_le_f.2 g)
   rw [if_neg h']
   have ok := stepOk hr hs h0 h1 h' dr ds
   refine Yld.bindE (rFloor_f ri) (Yld.bindE (rWhole_f (unB_in _ _)) ?_)
   rw [unB_some (qF_mk hr), mkB_one (floor_in hr)]
   refine Yld.bindE (rOf_f (by decide)) (Yld.bindE (rSub_f si fi) ?_)
   rw [ok.sub1]
   obtain ⟨k1, k2⟩ := one_div_f ok.hi' ok.f1
   obtain ⟨k3, k4⟩ := one_div_f ok.lo' ok.f2
   refine Yld.bindE (rDiv_f oi (mk_in _)) (Yld.bindE (rOf_f (by decide)) (Yld.bindE (rSub_f ri fi) ?_))
   rw [ok.sub2, k1]
   refine Yld.bindE (rDiv_f oi (mk_in _)) ?_
   rw [k3]
   have p1 := inv_pos' ok.hi'
   refine Yld.bindE (simple_f n k2 k4 p1 ok.le' ok.d1 ok.d2) (Yld.bindE (rOf_f (by decide)) (Yld.bindE (rDiv_f oi (mk_in _)) (Yld.bindE (rAdd_f fi (bi_in divR_in _ _)) (Yld.some ?_))))
   have t0 := sim_pos p1 ok.le' ok.d1 ok.d2
   have tf := sim_fits k2 p1 ok.le' ok.d1 ok.d2
   rw [(one_div_f t0 tf).1]
   have hv := (sim_spec (n + 1) h0 h1 dr ds).2 r Rat.le_refl h1
   unfold sim at hv
   rw [if_neg h'] at hv
   exact backOk (s := s) (n := n) hr tf t0 ok.fl hv
theorem simplest_pos : ∀ (n : Nat) {r s : Rat}, fits r → fits s → 0 < r → r ≤ s → r.den < n → s.den < n → q_Simplest_R FF n (mk r) (mk s) = some (mk (sim n r s))
 | 0, r, s, _, _, _, _, dr, _ => absurd dr (Nat.not_lt_zero _)
 | n + 1, r, s, hr, hs, h0, h1, dr, ds => by
  refine Yld.eq ?_
  unfold q_Simplest_R sim
  have ri := mk_in r
  have si := mk_in s
  have fc := int_fits (ceil_in hr)
  have ff := int_fits (floor_in hr)
  have ci := mk_in (r.ceil : Rat)
  have fi := mk_in (r.floor : Rat)
  have oi := mk_in ((1 : Int) : Rat)
  have s0 : 0 < s := by grind
  refine Yld.bindE (Good_f ri) ?_
  rw [qF_mk hr]
  refine Yld.g1 rfl (Yld.bindE (Good_f si) ?_)
  rw [qF_mk hs]
  refine Yld.g1 rfl (Yld.bindE (Cmp_f ri si) ?_)
  rw [cmpF_some (qF_mk hr) (qF_mk hs)]
  have c0 : ¬ 0 < cmpR r s := by have := cmpR_le.2 h1; omega
  rw [decide_eq_false c0]
  refine Yld.iff rfl (Yld.bindE (Sign_pos hr h0) ?_)
  refine Yld.g0 rfl (Yld.iff rfl (Yld.bindE (Sign_pos hs s0) ?_))
  refine Yld.iff rfl (Yld.bindE (Ceil_f ri) (Yld.bindE (Whole_f (unB_in _ _)) ?_))
  rw [unB_some (qF_mk hr), mkB_one (ceil_in hr)]
  refine Yld.bindE (Cmp_f ci si) ?_
  rw [cmpF_some (qF_mk fc) (qF_mk hs)]
  refine Yld.ite (fun h => ?_) (fun h => ?_)
  ·have h' := ceil_le_f.1 (of_decide_eq_true h)
   rw [if_pos h']
   exact Yld.some rfl
  ·have h' : ¬ (r.ceil : Rat) ≤ s := fun g => of_decide_eq_false h (ceil_le_f.2 g)
   rw [if_neg h']
   have ok := stepOk hr hs h0 h1 h' dr ds
   refine Yld.bindE (Floor_f ri) (Yld.bindE (Whole_f (unB_in _ _)) ?_)
   rw [unB_some (qF_mk hr), mkB_one (floor_in hr)]
   refine Yld.bindE (Of_f (by decide)) (Yld.bindE (Of_f (by decide)) (Yld.bindE (Sub_f si fi) ?_))
   rw [ok.sub1]
   obtain ⟨k1, k2⟩ := one_div_f ok.hi' ok.f1
   obtain ⟨k3, k4⟩ := one_div_f ok.lo' ok.f2
   refine Yld.bindE (Div_f oi (mk_in _)) (Yld.bindE (Of_f (by decide)) (Yld.bindE (Sub_f ri fi) ?_))
   rw [ok.sub2, k1]
   refine Yld.bindE (Div_f oi (mk_in _)) ?_
   rw [k3]
   have p1 := inv_pos' ok.hi'
   refine Yld.bindE (simplest_pos n k2 k4 p1 ok.le' ok.d1 ok.d2) (Yld.bindE (Div_f oi (mk_in _)) (Yld.bindE (Add_f fi (bi_in divR_in _ _)) (Yld.some ?_)))
   have t0 := sim_pos p1 ok.le' ok.d1 ok.d2
   have tf := sim_fits k2 p1 ok.le' ok.d1 ok.d2
   rw [(one_div_f t0 tf).1]
   have hv := (sim_spec (n + 1) h0 h1 dr ds).2 r Rat.le_refl h1
   unfold sim at hv
   rw [if_neg h'] at hv
   exact backOk (s := s) (n := n) hr tf t0 ok.fl hv
end Go.Proofs.YtdjnlmmhbeeihaaGreatDoor

namespace Go.Proofs.YtdjnlmmhbeeihaaGreatDoor
open Go Go.Sk
set_option linter.unusedSimpArgs false
set_option linter.unusedVariables false
theorem sgn_le {r : Rat} : sgn r.num ≤ 0 ↔ r ≤ 0 := by
 have h1 : 0 < r.num ↔ 0 < r := ⟨num_pos', num_pos⟩
 rw [← Rat.not_lt, ← h1]
 unfold sgn
 split <;> (try split) <;> omega
theorem le_sgn {s : Rat} : 0 ≤ sgn s.num ↔ 0 ≤ s := by
 have h1 : 0 < (-s).num ↔ 0 < -s := ⟨num_pos', num_pos⟩
 rw [(neg_nd s).1] at h1
 have h2 : 0 ≤ s ↔ ¬ 0 < -s := by grind
 rw [h2, ← h1]
 unfold sgn
 split <;> (try split) <;> omega
theorem sgn_lt {s : Rat} : sgn s.num < 0 ↔ s < 0 := by
 rw [← Rat.not_le, ← le_sgn]
 omega
def sim' (r s : Rat) : Rat := sim (r.den + s.den + 1) r s
theorem sim_eq {n : Nat} {r s : Rat} (h0 : 0 < r) (h1 : r ≤ s) (dr : r.den < n) (ds : s.den < n) : sim n r s = sim' r s :=
 sim_fuel h0 h1 dr ds (by omega) (by omega)
def simpF (x y : Frc) : Frc := match qF x, qF y with
 | some r, some s => if s < r then bf else if r ≤ 0 ∧ 0 ≤ s then mk ((0 : Int) : Rat) else if s < 0 then mk (-(sim' (-s) (-r))) else mk (sim' r s)
 | _, _ => bf
theorem den_lt {r : Rat} (h : fits r) {m : Nat} (hm : MM ≤ (m : Int)) : r.den < m := by have := h.2.2; omega
theorem cmpR_gt {r s : Rat} : 0 < cmpR r s ↔ s < r := by
 rw [← Rat.not_le, ← cmpR_le]
 omega
theorem simpF_some {x y : Frc} {r s : Rat} (h : qF x = some r) (h2 : qF y = some s) : simpF x y = if s < r then bf else if r ≤ 0 ∧ 0 ≤ s then mk ((0 : Int) : Rat) else if s < 0 then mk (-(sim' (-s) (-r))) else mk (sim' r s) := by
 unfold simpF
 rw [h, h2]
theorem Simplest_m {x y : Frc} (hx : inF x) (hy : inF y) : ∀ m : Nat, MM < (m : Int) → q_Simplest_R FF m x y = some (simpF x y)
 | 0, h => by have := MM_pos; omega
 | m + 1, h => by
  have hm : MM ≤ (m : Int) := by omega
  cases hq : qF x with
  | none =>
   refine Yld.eq ?_
   unfold q_Simplest_R simpF
   refine Yld.bindE (Good_f hx) ?_
   rw [hq]
   exact Yld.g0 rfl (Yld.g0 rfl (Yld.ift rfl (Yld.bindE Bad_f (Yld.some rfl))))
  | some r =>
   obtain ⟨hr, ex⟩ := qF_some hx hq
   cases hq2 : qF y with
   | none =>
    refine Yld.eq ?_
    unfold q_Simplest_R simpF
    refine Yld.bindE (Good_f hx) ?_
    rw [hq, hq2]
    refine Yld.g1 rfl (Yld.bindE (Good_f hy) ?_)
    rw [hq2]
    exact Yld.g0 rfl (Yld.ift rfl (Yld.bindE Bad_f (Yld.some rfl)))
   | some s =>
    obtain ⟨hs, ey⟩ := qF_some hy hq2
    rw [simpF_some hq hq2]
    by_cases hp : 0 < r ∧ r ≤ s
    ·have a1 : ¬ s < r := by have := hp.2; grind
     have a2 : ¬ (r ≤ 0 ∧ 0 ≤ s) := fun h => by have := hp.1; grind
     have a3 : ¬ s < 0 := by have := hp.1; have := hp.2; grind
     rw [if_neg a1, if_neg a2, if_neg a3, ex, ey, simplest_pos (m + 1) hr hs hp.1 hp.2 (by have := den_lt hr hm; omega) (by have := den_lt hs hm; omega), sim_eq hp.1 hp.2 (by have := den_lt hr hm; omega) (by have := den_lt hs hm; omega)]
    ·refine Yld.eq ?_
     unfold q_Simplest_R
     refine Yld.bindE (Good_f hx) ?_
     rw [hq]
     refine Yld.g1 rfl (Yld.bindE (Good_f hy) ?_)
     rw [hq2]
     refine Yld.g1 rfl (Yld.bindE (Cmp_f hx hy) ?_)
     rw [cmpF_some hq hq2]
     by_cases h1 : s < r
     ·rw [decide_eq_true (cmpR_gt.2 h1), if_pos h1]
      exact Yld.ift rfl (Yld.bindE Bad_f (Yld.some rfl))
     ·rw [decide_eq_false (fun g => h1 (cmpR_gt.1 g)), if_neg h1]
      have h1' : r ≤ s := by grind
      subst ex ey
      refine Yld.iff rfl (Yld.bindE (Sign_mk hr) ?_)
      have r0 : r ≤ 0 := by
       rw [← Rat.not_lt]
       exact fun g => hp ⟨g, h1'⟩
      rw [decide_eq_true (sgn_le.2 r0)]
      refine Yld.g1 rfl (Yld.bindE (Sign_mk hs) ?_)
      by_cases h2 : 0 ≤ s
      ·rw [decide_eq_true (le_sgn.2 h2), if_pos (show r ≤ 0 ∧ 0 ≤ s from ⟨r0, h2⟩)]
       exact Yld.ift rfl (Yld.bindE (Of_f (by decide)) (Yld.some rfl))
      ·have s0 : s < 0 := by grind
       rw [decide_eq_false (fun g => h2 (le_sgn.1 g)), if_neg (show ¬ (r ≤ 0 ∧ 0 ≤ s) from fun g => h2 g.2), if_pos s0]
       refine Yld.iff rfl (Yld.bindE (Sign_mk hs) (Yld.ift (decide_eq_true (sgn_lt.2 s0)) (Yld.bindE (Neg_f (mk_in _)) (Yld.bindE (Neg_f (mk_in _)) ?_))))
       rw [unN_mk hr, unN_mk hs]
       have n1 : 0 < -s := by grind
       have n2 : -s ≤ -r := by grind
       have f1 := neg_fits hs
       have f2 := neg_fits hr
       refine Yld.bindE (simplest_pos m f1 f2 n1 n2 (den_lt f1 hm) (den_lt f2 hm)) (Yld.bindE (Neg_f (mk_in _)) (Yld.some ?_))
       rw [sim_eq n1 n2 (den_lt f1 hm) (den_lt f2 hm)]
       refine unN_mk ?_
       rw [← sim_eq n1 n2 (den_lt f1 hm) (den_lt f2 hm)]
       exact sim_fits f1 n1 n2 (den_lt f1 hm) (den_lt f2 hm)
theorem Simplest_f {x y : Frc} (hx : inF x) (hy : inF y) : q_Simplest_S FF x y = some (simpF x y) := Simplest_m hx hy FF FF_MM
theorem rSimple_f {r s : Rat} (hr : fits r) (hs : fits s) (h0 : 0 < r) (h1 : r ≤ s) : r4_simple_S FF (mk r) (mk s) = some (mk (sim' r s)) := by
 have hm : MM ≤ (FF : Int) := Int.le_of_lt FF_MM
 unfold r4_simple_S
 rw [simple_f FF hr hs h0 h1 (den_lt hr hm) (den_lt hs hm), sim_eq h0 h1 (den_lt hr hm) (den_lt hs hm)]
theorem sim'_fits {r s : Rat} (hr : fits r) (h0 : 0 < r) (h1 : r ≤ s) : fits (sim' r s) := sim_fits hr h0 h1 (by omega) (by omega)
theorem rSimplest_f {x y : Frc} (hx : inF x) (hy : inF y) : r4_Simplest_S FF x y = some (simpF x y) := by
 refine Yld.eq ?_
 unfold r4_Simplest_S
 refine Yld.bindE (rGood_f hx) ?_
 cases hq : qF x with
 | none =>
  unfold simpF
  rw [hq]
  exact Yld.g0 rfl (Yld.g0 rfl (Yld.ift rfl (Yld.bindE rBad_f (Yld.some rfl))))
 | some r =>
  obtain ⟨hr, ex⟩ := qF_some hx hq
  refine Yld.g1 rfl (Yld.bindE (rGood_f hy) ?_)
  cases hq2 : qF y with
  | none =>
   unfold simpF
   rw [hq, hq2]
   exact Yld.g0 rfl (Yld.ift rfl (Yld.bindE rBad_f (Yld.some rfl)))
  | some s =>
   obtain ⟨hs, ey⟩ := qF_some hy hq2
   rw [simpF_some hq hq2]
   refine Yld.g1 rfl (Yld.bindE (rCmp_f hx hy) ?_)
   rw [cmpF_some hq hq2]
   by_cases h1 : s < r
   ·rw [decide_eq_true (cmpR_gt.2 h1), if_pos h1]
    exact Yld.ift rfl (Yld.bindE rBad_f (Yld.some rfl))
   ·rw [decide_eq_false (fun g => h1 (cmpR_gt.1 g)), if_neg h1]
    have h1' : r ≤ s := by grind
    subst ex ey
    refine Yld.iff rfl (Yld.bindE (rSign_mk hr) ?_)
    by_cases r0 : r ≤ 0
    ·rw [decide_eq_true (sgn_le.2 r0)]
     refine Yld.g1 rfl (Yld.bindE (rSign_mk hs) ?_)
     by_cases h2 : 0 ≤ s
     ·rw [decide_eq_true (le_sgn.2 h2), if_pos (show r ≤ 0 ∧ 0 ≤ s from ⟨r0, h2⟩)]
      exact Yld.ift rfl (Yld.bindE (rOf_f (by decide)) (Yld.some rfl))
     ·have s0 : s < 0 := by grind
      rw [decide_eq_false (fun g => h2 (le_sgn.1 g)), if_neg (show ¬ (r ≤ 0 ∧ 0 ≤ s) from fun g => h2 g.2), if_pos s0]
      refine Yld.iff rfl (Yld.bindE (rSign_mk hs) (Yld.ift (decide_eq_true (sgn_lt.2 s0)) (Yld.bindE (rNeg_f (mk_in _)) (Yld.bindE (rNeg_f (mk_in _)) ?_))))
      rw [unN_mk hr, unN_mk hs]
      have n1 : 0 < -s := by grind
      have n2 : -s ≤ -r := by grind
      have f1 := neg_fits hs
      have f2 := neg_fits hr
      exact Yld.bindE (rSimple_f f1 f2 n1 n2) (Yld.bindE (rNeg_f (mk_in _)) (Yld.some (unN_mk (sim'_fits f1 n1 n2))))
    ·have r1 : 0 < r := by grind
     have s0 : ¬ s < 0 := by grind
     rw [decide_eq_false (fun g => r0 (sgn_le.1 g)), if_neg (show ¬ (r ≤ 0 ∧ 0 ≤ s) from fun g => r0 g.1), if_neg s0]
     refine Yld.g0 rfl (Yld.iff rfl (Yld.bindE (rSign_mk hs) (Yld.iff (decide_eq_false (fun g => s0 (sgn_lt.1 g))) ?_)))
     exact Yld.bindE (rSimple_f hr hs r1 h1') (Yld.some rfl)
structure Best (r s v : Rat) : Prop where
 lo : r ≤ v
 hi : v ≤ s
 best : ∀ y, r ≤ y → y ≤ s → (v.den : Int) ≤ y.den ∧ v.num.natAbs ≤ y.num.natAbs
 fit : fits v
theorem best_sim {r s : Rat} (hr : fits r) (h0 : 0 < r) (h1 : r ≤ s) : Best r s (sim' r s) := by
 have h := sim_spec (r.den + s.den + 1) h0 h1 (by omega) (by omega)
 refine ⟨h.1.1, h.1.2, fun y a b => ?_, sim'_fits hr h0 h1⟩
 have h2 := h.2 y a b
 have h3 := num_pos (sim_pos (n := r.den + s.den + 1) h0 h1 (by omega) (by omega))
 exact ⟨h2.1, by have := h2.2; unfold sim'; omega⟩
theorem simpF_best {x y : Frc} {r s v : Rat} (hr : fits r) (hs : fits s) (h : qF x = some r) (h2 : qF y = some s) (hv : qF (simpF x y) = some v) : Best r s v := by
 rw [simpF_some h h2] at hv
 by_cases h1 : s < r
 ·rw [if_pos h1, qF_bf] at hv; cases hv
 ·have h1' : r ≤ s := by grind
  rw [if_neg h1] at hv
  by_cases h3 : r ≤ 0 ∧ 0 ≤ s
  ·have fz : fits ((0 : Int) : Rat) := int_fits zero_InM
   rw [if_pos h3, qF_mk fz] at hv
   cases hv
   have z0 : ((0 : Int) : Rat) = 0 := rfl
   refine ⟨h3.1, h3.2, fun y _ _ => ⟨?_, Nat.zero_le _⟩, fz⟩
   have := den_pos y
   rw [(int_nd 0).2]
   omega
  ·rw [if_neg h3] at hv
   by_cases h4 : s < 0
   ·have n1 : 0 < -s := by grind
    have n2 : -s ≤ -r := by grind
    have b := best_sim (neg_fits hs) n1 n2
    rw [if_pos h4, qF_mk (neg_fits b.fit)] at hv
    cases hv
    have b1 := b.lo
    have b2 := b.hi
    refine ⟨by grind, by grind, fun y h5 h6 => ?_, neg_fits b.fit⟩
    have := b.best (-y) (by grind) (by grind)
    rw [(neg_nd y).1, (neg_nd y).2] at this
    rw [(neg_nd (sim' (-s) (-r))).1, (neg_nd (sim' (-s) (-r))).2]
    omega
   ·have r1 : 0 < r := by grind
    have b := best_sim hr r1 h1'
    rw [if_neg h4, qF_mk b.fit] at hv
    cases hv
    exact b
theorem simpF_self {x : Frc} {r : Rat} (hx : inF x) (h : qF x = some r) : simpF x x = x := by
 obtain ⟨hr, ex⟩ := qF_some hx h
 cases hv : qF (simpF x x) with
 | some v =>
  have b := simpF_best hr hr h h hv
  have e : v = r := Rat.le_antisymm b.hi b.lo
  have hin : inF (simpF x x) := by
   rw [simpF_some h h]
   split
   ·exact bf_in
   ·split
    ·exact mk_in _
    ·split <;> exact mk_in _
  obtain ⟨_, e2⟩ := qF_some hin hv
  rw [e2, e, ← ex]
 | none =>
  rw [simpF_some h h] at hv
  have h1 : ¬ r < r := by grind
  rw [if_neg h1] at hv
  by_cases h3 : r ≤ 0 ∧ 0 ≤ r
  ·rw [if_pos h3, qF_mk (int_fits zero_InM)] at hv; cases hv
  ·rw [if_neg h3] at hv
   by_cases h4 : r < 0
   ·rw [if_pos h4, qF_mk (neg_fits (sim'_fits (neg_fits hr) (by grind) Rat.le_refl))] at hv; cases hv
   ·rw [if_neg h4, qF_mk (sim'_fits hr (by grind) Rat.le_refl)] at hv; cases hv
end Go.Proofs.YtdjnlmmhbeeihaaGreatDoor

namespace Go.Proofs.YtdjnlmmhbeeihaaGreatDoor
open Go Go.Sk
set_option maxRecDepth 100000
theorem sanity_y : l4_sanity_S FF = some true := by
 unfold l4_sanity_S l4_text_S q_Text_S w_Text_S
 simp only [itoa_S_K]
 decide +kernel
end Go.Proofs.YtdjnlmmhbeeihaaGreatDoor

namespace Go.Proofs.YtdjnlmmhbeeihaaGreatDoor
open Go Go.Sk
set_option linter.unusedSimpArgs false
set_option linter.unusedVariables false
theorem rSub_w {a b : Int} (ra : InM a) (rb : InM b) : r3_Sub_S FF (big a) (big b) = some (big (a - b)) := by rw [rSub_y FF2 (big_in a) (big_in b), two_big ra rb]; rfl
theorem rSmall_v {d : Int} (h0 : 0 ≤ d) (rd : InM d) : r3_Small_S FF (big d) = some (if d ≤ 9223372036854775807 then (d, true) else (0, false)) := by
 refine Yld.eq ?_
 unfold r3_Small_S
 obtain ⟨wa, na⟩ := sv_big_W rd
 rw [if_neg (by omega)] at wa
 refine Yld.bindE (rGood_y FF2 (big_in d)) ?_
 rw [goodB_big rd]
 refine Yld.iff rfl (Yld.bindE (rOf_v (by decide) (by decide)) (Yld.bindE (rOf_v (by decide) (by decide)) (Yld.bindE (rCmp_v rd (in64_M (by decide))) ?_)))
 have c1 : ¬ cmpZ d (-9223372036854775808) < 0 := by unfold cmpZ; split <;> (try split) <;> omega
 rw [decide_eq_false c1]
 refine Yld.g1 rfl (Yld.bindE (rCmp_v rd (in64_M (by decide))) ?_)
 by_cases h : d ≤ 9223372036854775807
 ·have c2 : ¬ 0 < cmpZ d 9223372036854775807 := by unfold cmpZ; split <;> (try split) <;> omega
  rw [decide_eq_false c2, if_pos h]
  have hs := small_val (big_in d) (by rw [wa]; omega)
  rw [wa] at hs
  have b0 := big_in d 0
  have b1 := big_in d 1
  have e0 : dg (big d).W.l 0 = (big d).W.a0 := rfl
  have e1 : dg (big d).W.l 1 = (big d).W.a1 := rfl
  rw [e0] at b0
  rw [e1] at b1
  refine Yld.iff rfl (Yld.lnE ((big d).W.a1 * 4294967296) (by simp only [wu64]; omega) (Yld.lnE d (by simp only [wu64]; omega) ?_))
  rw [na, decide_eq_false (show ¬ d < 0 by omega)]
  exact Yld.bind (P := fun z => z = d) (Yld.iff rfl (Yld.some (wi64' (by omega) (by omega)))) fun z hz => Yld.some (by rw [hz])
 ·have c2 : 0 < cmpZ d 9223372036854775807 := by unfold cmpZ; split <;> (try split) <;> omega
  rw [decide_eq_true c2, if_neg h]
  exact Yld.ift rfl (Yld.some rfl)
theorem mkB_val {a b : Big} {u : Rat} (h : qF (mkB a b) = some u) : ∃ p q, iv a = some p ∧ iv b = some q ∧ u = Rat.divInt p q := by
 cases h1 : iv a with
 | none => rw [mkB_bad1 h1, qF_bf] at h; cases h
 | some p =>
  cases h2 : iv b with
  | none => rw [mkB_bad2 h2, qF_bf] at h; cases h
  | some q =>
   unfold mkB at h
   rw [h1, h2] at h
   dsimp only at h
   split at h
   ·rw [qF_bf] at h; cases h
   ·exact ⟨p, q, rfl, rfl, qF_ofR_val h⟩
theorem iv_big_some {z p : Int} (h : iv (big z) = some p) : InM z ∧ p = z := by
 rw [iv_big'] at h
 split at h
 ·next hi => exact ⟨hi, (Option.some.inj h).symm⟩
 ·cases h
theorem cast_pos {z : Int} (h : 0 < z) : (0 : Rat) < (z : Rat) := Rat.intCast_pos.2 h
theorem d_mul (a : Int) {P : Int} (h : 0 < P) : Rat.divInt a P * (P : Rat) = (a : Rat) := by
 have h0 := cast_pos h
 rw [divInt_q, Rat.div_mul_cancel (by grind)]
theorem val_mul {X Y : Frc} {u : Rat} (h : qF (bi mulR X Y) = some u) : ∃ a b, qF X = some a ∧ qF Y = some b ∧ u = a * b := by
 cases h1 : qF X with
 | none => rw [bi_none1 h1, qF_bf] at h; cases h
 | some a =>
  cases h2 : qF Y with
  | none => rw [bi_none2 h2, qF_bf] at h; cases h
  | some b =>
   rw [bi_some h1 h2] at h
   exact ⟨a, b, rfl, rfl, qF_ofR_val h⟩
theorem mul_in (x y : Frc) : inF (bi mulR x y) := bi_in (fun r s => ofR_in _) x y
theorem den_red (n : Int) {k : Int} (h : 0 < k) : ((Rat.divInt n k).den : Int) ≤ k ∧ (Rat.divInt n k).num.natAbs ≤ n.natAbs := by
 obtain ⟨g0, e1, e2⟩ := red (n := n) (show k ≠ 0 by omega)
 have hd := den_pos (Rat.divInt n k)
 generalize gcdS n k = g at *
 have hg : 0 < g := by
  rcases (by omega : g ≤ 0 ∨ 0 < g) with h1 | h1
  ·have := Int.mul_nonpos_of_nonneg_of_nonpos (Int.le_of_lt hd) h1; omega
  ·exact h1
 refine ⟨?_, ?_⟩
 ·have := Int.mul_le_mul_of_nonneg_left (show 1 ≤ g by omega) (Int.le_of_lt hd)
  omega
 ·have h1 : (Rat.divInt n k).num.natAbs * g.natAbs = n.natAbs := by rw [← Int.natAbs_mul, e1]
  have h2 : (Rat.divInt n k).num.natAbs * 1 ≤ (Rat.divInt n k).num.natAbs * g.natAbs := Nat.mul_le_mul_left _ (by omega)
  omega
theorem simpF_in (x y : Frc) : inF (simpF x y) := by
 unfold simpF
 split
 ·split
  ·exact bf_in
  ·split
   ·exact mk_in _
   ·split <;> exact mk_in _
 ·exact bf_in
theorem simplest_y {x y : Frc} (hx : inF x) (hy : inF y) : l4_RatioSimplestIsSimplest_S FF x y = some true := by
 refine Yld.eq ?_
 unfold l4_RatioSimplestIsSimplest_S
 refine Yld.bindE (Simplest_f hx hy) (Yld.bindE (rSimplest_f hx hy) (Yld.iff (by simp) (Yld.bindE (Good_f (simpF_in _ _)) ?_)))
 cases hv : qF (simpF x y) with
 | none => exact Yld.ift rfl (Yld.bindE sanity_y (Yld.some rfl))
 | some v =>
  obtain ⟨r, s, hq, hq2⟩ : ∃ r s, qF x = some r ∧ qF y = some s := by
   cases h1 : qF x with
   | none => unfold simpF at hv; rw [h1] at hv; dsimp only at hv; rw [qF_bf] at hv; cases hv
   | some r =>
    cases h2 : qF y with
    | none => unfold simpF at hv; rw [h1, h2] at hv; dsimp only at hv; rw [qF_bf] at hv; cases hv
    | some s => exact ⟨r, s, rfl, rfl⟩
  obtain ⟨hr, ex⟩ := qF_some hx hq
  obtain ⟨hs, ey⟩ := qF_some hy hq2
  have b := simpF_best hr hs hq hq2 hv
  obtain ⟨_, e0⟩ := qF_some (simpF_in x y) hv
  have vi := mk_in v
  rw [e0]
  refine Yld.iff rfl (Yld.bindE (Cmp_f hx vi) ?_)
  have c1 : ¬ 0 < cmpR r v := fun g => by have := cmpR_gt.1 g; have := b.lo; grind
  have c2 : ¬ 0 < cmpR v s := fun g => by have := cmpR_gt.1 g; have := b.hi; grind
  rw [cmpF_some hq (qF_mk b.fit), decide_eq_false c1]
  refine Yld.g1 rfl (Yld.bindE (Cmp_f vi hy) ?_)
  rw [cmpF_some (qF_mk b.fit) hq2, decide_eq_false c2]
  refine Yld.g1 rfl (Yld.bindE (Simplest_f hx hx) ?_)
  rw [simpF_self hx hq, mk_D, mk_N]
  have vd := den_pos v
  refine Yld.iff (by simp) (Yld.bindE (rSmall_v (Int.le_of_lt vd) b.fit.2) ?_)
  generalize hsm : (if (v.den : Int) ≤ 9223372036854775807 then ((v.den : Int), true) else (0, false)) = sm
  obtain ⟨d0, ok⟩ := sm
  dsimp only [un2]
  refine Yld.bind (P := fun d : Int => d ≤ v.den ∧ 1 ≤ d ∧ d ≤ 61) (Yld.ite (fun h => Yld.some ?_) (fun h => Yld.some ?_)) ?_
  ·split at hsm
   ·cases hsm
    have : 60 < (v.den : Int) := by simpa using h
    omega
   ·next h2 => omega
  ·split at hsm
   ·cases hsm
    have : (v.den : Int) ≤ 60 := by simpa using h
    omega
   ·cases hsm
    simp at h
  ·rintro d ⟨dv, d1, d61⟩
   refine Yld.bind (P := fun o : Unit ⊕ Bool => o = .inl ()) (Yld.rounds (d - 1).toNat (fun j k => k = (j : Int) + 1) (by have := FF2; omega) (by omega) ?_) ?_
   ·rintro j k hj rfl
    refine Yld.ite (fun h => ?_) (fun h => Yld.some (.inr ⟨_, rfl, rfl⟩))
    have hk := of_decide_eq_true h
    have hk64 : -9223372036854775808 ≤ ((j : Int) + 1) ∧ ((j : Int) + 1) ≤ 9223372036854775807 := by omega
    have hkM := in64_M hk64
    refine Yld.bindE (Of_f hk64) (Yld.bindE (Mul_f hx (mk_in _)) (Yld.bindE (Ceil_f (mul_in _ _)) (Yld.bindE (rOf_v hk64.1 hk64.2) (Yld.bindE (Make_f (unB_in _ _) (big_in _)) (Yld.bindE (Good_f (mkB_in _ _)) ?_)))))
    have hw : IntKind.i64.wrap ((j : Int) + 1 + 1) = ((j + 1 : Nat) : Int) + 1 := by rw [wi64' (by omega) (by omega)]; omega
    rw [hw]
    have fin : ∀ {Q : Int ⊕ (Unit ⊕ Bool) → Prop}, Q (.inl (((j + 1 : Nat) : Int) + 1)) → Yld (some (Sum.inl (((j + 1 : Nat) : Int) + 1) : Int ⊕ (Unit ⊕ Bool))) Q := fun h => Yld.some h
    cases hw2 : qF (mkB (unB Rat.ceil (bi mulR x (mk (((j : Int) + 1 : Int) : Rat)))) (big ((j : Int) + 1))) with
    | none => exact Yld.g0 rfl (Yld.iff rfl (Yld.some (.inl ⟨_, rfl, rfl, by omega⟩)))
    | some w =>
     refine Yld.g1 rfl (Yld.bindE (Cmp_f (mkB_in _ _) hy) ?_)
     rw [cmpF_some hw2 hq2]
     obtain ⟨p, q, e1, e2, e3⟩ := mkB_val hw2
     obtain ⟨_, e4⟩ := iv_big_some e2
     subst e4
     cases hm : qF (bi mulR x (mk (((j : Int) + 1 : Int) : Rat))) with
     | none => rw [unB_none hm, iv_bad] at e1; cases e1
     | some u =>
      rw [unB_some hm] at e1
      obtain ⟨_, e5⟩ := iv_big_some e1
      obtain ⟨a, c, f1, f2, f3⟩ := val_mul hm
      rw [hq] at f1
      rw [qF_mk (int_fits hkM)] at f2
      cases f1; cases f2
      have kp : 0 < (j : Int) + 1 := by omega
      have hwd := (den_red p kp).1
      have hwm := d_mul p kp
      rw [← e3] at hwd hwm
      have hc : u ≤ (p : Rat) := by rw [e5]; exact Rat.le_ceil
      have kq := cast_pos kp
      have hge : r ≤ w := by
       rw [f3, ← hwm] at hc
       exact Rat.le_of_mul_le_mul_right hc kq
      have c3 : ¬ cmpR w s ≤ 0 := fun g => by
       have h5 := (b.best w hge (cmpR_le.1 g)).1
       omega
      rw [decide_eq_false c3]
      exact Yld.iff rfl (Yld.some (.inl ⟨_, rfl, rfl, by omega⟩))
   ·rintro o rfl
    dsimp only [alt2]
    have hsr := sgn_rng v.num
    have hs64 : -9223372036854775808 ≤ sgn v.num ∧ sgn v.num ≤ 9223372036854775807 := by omega
    have hsM := in64_M hs64
    have hzM : InM (v.num - sgn v.num) := by
     have h1 := b.fit.1
     unfold sgn
     obtain ⟨h2, h3⟩ := h1
     split
     ·constructor <;> omega
     ·split <;> constructor <;> omega
    refine Yld.bindE (Sign_mk b.fit) (Yld.bindE (rOf_v hs64.1 hs64.2) (Yld.bindE (rSub_w b.fit.1 hsM) (Yld.bindE (Make_f (big_in _) (big_in _)) (Yld.bindE sanity_y (Yld.g1 rfl (Yld.bindE (Sign_mk b.fit) ?_))))))
    rw [mkB_big hzM b.fit.2 (by omega)]
    have zf : fits (Rat.divInt (v.num - sgn v.num) v.den) := red_fits (by omega) hzM b.fit.2
    rw [ofR_fits zf, dec_sgn]
    by_cases hz : v.num = 0
    ·rw [decide_eq_true hz]
     exact Yld.g0 rfl (Yld.g0 rfl (Yld.g0 rfl (Yld.ln (Yld.some rfl))))
    ·rw [decide_eq_false hz]
     have zi := mk_in (Rat.divInt (v.num - sgn v.num) v.den)
     refine Yld.g1 rfl (Yld.bindE (Good_f zi) ?_)
     rw [qF_mk zf]
     refine Yld.g1 rfl (Yld.bindE (Cmp_f zi hx) ?_)
     rw [cmpF_some (qF_mk zf) hq]
     by_cases h1 : cmpR (Rat.divInt (v.num - sgn v.num) v.den) r < 0
     ·rw [decide_eq_true h1]
      exact Yld.g0 rfl (Yld.ln (Yld.some rfl))
     ·rw [decide_eq_false h1]
      refine Yld.g1 rfl (Yld.bindE (Cmp_f zi hy) (Yld.ln (Yld.some ?_)))
      rw [cmpF_some (qF_mk zf) hq2]
      have c4 : 0 < cmpR (Rat.divInt (v.num - sgn v.num) v.den) s := by
       rcases (by omega : cmpR (Rat.divInt (v.num - sgn v.num) v.den) s ≤ 0 ∨ 0 < cmpR (Rat.divInt (v.num - sgn v.num) v.den) s) with g | g
       ·have g1 : r ≤ Rat.divInt (v.num - sgn v.num) v.den := by
         rw [← cmpR_le, cmpR_sw]
         omega
        have h5 := (b.best _ g1 (cmpR_le.1 g)).2
        have h6 := (den_red (v.num - sgn v.num) vd).2
        have h7 : (v.num - sgn v.num).natAbs < v.num.natAbs := by
         unfold sgn
         rw [if_neg hz]
         split <;> omega
        omega
       ·exact g
      rw [decide_eq_true c4]
      rfl
end Go.Proofs.YtdjnlmmhbeeihaaGreatDoor

namespace Go.Proofs.YtdjnlmmhbeeihaaGreatDoor
open Go Go.Sk
end Go.Proofs.YtdjnlmmhbeeihaaGreatDoor

namespace Go.Sk
open Go
theorem int_mem_rel {h : PH} {cs : List CP} {L : List Value} {k : IntKind} {z : Int} (hr : cellsRel h cs L) (hm : CP.int k z ∈ cs) : inR k z := by
 obtain ⟨i, hi, he⟩ := List.getElem_of_mem hm
 obtain ⟨u, _, hu⟩ := All2.get hr i (.int k z) (by rw [List.getElem?_eq_getElem hi, he])
 exact hu.2
end Go.Sk
namespace Go.Proofs.YtdjnlmmhbeeihaaGreatDoor
open Go Go.Sk
theorem inD_of {w : A16} (H : ∀ z ∈ w.l, inR .u32 z) : inD 4294967296 w.l := fun i => by
 by_cases hi : i < w.l.length
 ·have h1 := H w.l[i] (List.getElem_mem hi)
  have e : dg w.l i = w.l[i] := by simp [dg, List.getD, List.getElem?_eq_getElem hi]
  rw [e]
  have h2 : 0 ≤ w.l[i] ∧ w.l[i] ≤ 4294967295 := by simpa [inR, IntKind.min, IntKind.max, IntKind.signed, IntKind.bits] using h1
  omega
 ·rw [dg_ge (by omega)]; decide
theorem inF_ints {x : Frc} (H : ∀ z, CP.int .u32 z ∈ eFrc x → inR .u32 z) : inF x := by
 refine ⟨inD_of fun z hz => H z ?_, inD_of fun z hz => H z ?_⟩
 ·unfold eFrc eBig
  exact List.mem_append_left _ (List.mem_cons_of_mem _ (List.mem_cons_of_mem _ (List.mem_map_of_mem hz)))
 ·unfold eFrc eBig
  exact List.mem_append_right _ (List.mem_cons_of_mem _ (List.mem_cons_of_mem _ (List.mem_map_of_mem hz)))
theorem inF_of {x : Frc} {h : PH} {v : Value} (hx : (BV.agg (eFrc x)).rel h (fun _ => .bool false) v) : inF x := by
 obtain ⟨cs, _, hr⟩ := hx
 exact inF_ints fun z hz => int_mem_rel hr hz
end Go.Proofs.YtdjnlmmhbeeihaaGreatDoor

namespace Go.Proofs.YtdjnlmmhbeeihaaGreatDoor
open Go Go.Sk
theorem simplest_law {mx : Int} (x : Frc) (y : Frc) (hx : inF x) (hy : inF y) : Meets Tryz.prog (tabs mx) 8 [] [.agg (eFrc x), .agg (eFrc y)] (Is [] (.b (.one (.bool true)))) :=
 l4_RatioSimplestIsSimplest_spec (simplest_y hx hy)
end Go.Proofs.YtdjnlmmhbeeihaaGreatDoor

