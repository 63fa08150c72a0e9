/- the plain law -/
import Derived.Test.YtdjnlmmhbeeihaaGreatDoorP1
namespace Go.Proofs.YtdjnlmmhbeeihaaGreatDoor
open Go Go.Sk
set_option linter.unusedSimpArgs false
set_option linter.unusedVariables false
theorem gcd_tmod (n m : Int) : Nat.gcd n.natAbs m.natAbs = Nat.gcd m.natAbs (n.tmod m).natAbs := by
 rw [Int.natAbs_tmod]; exact gcd_step _ _
theorem tmod_lt {n m : Int} (h : m ≠ 0) : (n.tmod m).natAbs < m.natAbs := by
 rw [Int.natAbs_tmod]; exact Nat.mod_lt _ (by omega)
theorem rGcd_v {a b : Int} (ra : InM a) (rb : InM b) : r3_Gcd_S FF (big a) (big b) = some (big (Nat.gcd a.natAbs b.natAbs : Nat)) := by
 have hF := FF2
 have hFb := FFb
 refine Yld.eq ?_
 unfold r3_Gcd_S
 refine Yld.bindE (word_y' hF (big_in a)) ?_
 rw [iv_big ra]
 generalize hp : wd (some a) = wx
 obtain ⟨p, p'⟩ := wx
 refine Yld.bindE (word_y' hF (big_in b)) ?_
 rw [iv_big rb]
 generalize hq : wd (some b) = wy
 obtain ⟨q, q'⟩ := wy
 dsimp only [un2]
 refine Yld.bind (P := fun o => o = .inr (big (Nat.gcd a.natAbs b.natAbs : Nat)) ∨ o = .inl ()) (Yld.ite (fun h => ?_) (fun h => ?_)) ?_
 ·simp only [Bool.and_eq_true] at h
  obtain ⟨rfl, rfl⟩ := h
  obtain ⟨ea, la⟩ := wd_true hp
  obtain ⟨eb, lb⟩ := wd_true hq
  cases ea; cases eb
  have la' : a.natAbs < 4611686018427387904 := by unfold absZ at la; split at la <;> omega
  have lb' : b.natAbs < 4611686018427387904 := by unfold absZ at lb; split at lb <;> omega
  refine Yld.bind (P := fun z : Int => z.natAbs = Nat.gcd a.natAbs b.natAbs ∧ z.natAbs < 4611686018427387904) (Yld.loop (fun s : Int × Int => Nat.gcd s.1.natAbs s.2.natAbs = Nat.gcd a.natAbs b.natAbs ∧ s.1.natAbs < 4611686018427387904 ∧ s.2.natAbs < 4611686018427387904) (fun s => s.2.natAbs) ⟨rfl, la', lb'⟩ (by dsimp only; omega) ?_) ?_
  ·rintro ⟨n, m⟩ ⟨h1, h2, h3⟩
   dsimp only at h1 h2 h3
   dsimp only [un2]
   refine Yld.ite (fun h => ?_) (fun h => ?_)
   ·have hm : m ≠ 0 := of_decide_eq_true h
    have := tmod_lt (n := n) hm
    refine Yld.rem hm (Yld.some (.inl ⟨_, rfl, ⟨by dsimp only; rw [← gcd_tmod]; exact h1, h3, by dsimp only; omega⟩, this⟩))
   ·have hm : m = 0 := by have := of_decide_eq_false h; omega
    subst hm
    refine Yld.some (.inr ⟨_, rfl, ?_, h2⟩)
    simpa using h1
  ·rintro z ⟨hz, hl⟩
   refine Yld.bindE (rOf_y hF (by omega) (by omega)) (Yld.bindE (x := big (Nat.gcd a.natAbs b.natAbs : Nat)) ?_ (Yld.some (.inl rfl)))
   rw [rAbs_y hF (big_in z), one_big (by have := MM_big; constructor <;> omega), ← hz]
   unfold absZ toB
   dsimp only
   congr 2
   split <;> omega
 ·exact Yld.some (.inr rfl)
 ·rintro o (rfl | rfl)
  ·exact Yld.some rfl
  ·dsimp only [alt2]
   refine Yld.bindE (rGood_y hF (big_in a)) ?_
   rw [goodB_big ra]
   refine Yld.g1 rfl (Yld.bindE (rGood_y hF (big_in b)) ?_)
   rw [goodB_big rb]
   refine Yld.iff rfl (Yld.bind (dig_y hF ra) ?_)
   rintro c ⟨c1, c2, c3, c4⟩
   refine Yld.bind (dig_y hF rb) ?_
   rintro d ⟨d1, d2, d3, d4⟩
   have hm : (lv d).toNat < FF := by
    have h1 := (absZ_lt rb).2
    have h2 := FF_MM
    rw [d3]; omega
   refine Yld.bind (P := fun x : List Int => inD 65536 x ∧ x.length ≤ 99 ∧ lv x = (Nat.gcd a.natAbs b.natAbs : Nat)) (Yld.loop (fun s : List Int × List Int => (inD 65536 s.1 ∧ s.1.length ≤ 99) ∧ (inD 65536 s.2 ∧ Tight s.2 ∧ s.2.length ≤ 99) ∧ Nat.gcd (lv s.1).natAbs (lv s.2).natAbs = Nat.gcd a.natAbs b.natAbs) (fun s => (lv s.2).toNat) ⟨⟨c1, by dsimp only; omega⟩, ⟨d1, d2, by dsimp only; omega⟩, by dsimp only; rw [c3, d3, absZ_nat, absZ_nat]; rfl⟩ hm ?_) ?_
   ·rintro ⟨x, y⟩ ⟨⟨x1, x2⟩, ⟨y1, y2, y3⟩, hg⟩
    dsimp only at x1 x2 y1 y2 y3 hg
    dsimp only [un2]
    have hy := len_pos y1 y2
    have ny := lv_nonneg y1
    have nx := lv_nonneg x1
    refine Yld.ite (fun h => ?_) (fun h => ?_)
    ·have h' := of_decide_eq_true h
     have hl : 0 < y.length := by omega
     refine Yld.bind (divide_y hF x1 y1 y2 hl (by omega) (by omega)) ?_
     rintro ⟨q, r⟩ ⟨⟨q1, q2, q3⟩, ⟨r1, r2, r3⟩, e1, e2⟩
     dsimp only at q1 q2 q3 r1 r2 r3 e1 e2
     dsimp only [un2]
     have nr := lv_nonneg r1
     obtain ⟨m1, m2⟩ := div_mod_of e1 nr e2
     refine Yld.some (.inl ⟨_, rfl, ⟨⟨y1, y3⟩, ⟨r1, r2, ?_⟩, ?_⟩, ?_⟩)
     ·dsimp only; omega
     ·dsimp only
      rw [← hg, ← m2, gcd_step (lv x).natAbs]
      congr 1
      have := Int.natAbs_emod_of_nonneg (a := lv x) (b := lv y) nx
      omega
     ·dsimp only; omega
    ·have h' := of_decide_eq_false h
     have hz : lv y = 0 := by
      by_cases e : lv y = 0
      ·exact e
      ·have := hy.2 e; omega
     refine Yld.some (.inr ⟨_, rfl, x1, x2, ?_⟩)
     rw [hz] at hg
     simp only [Int.natAbs_zero, Nat.gcd_zero_right] at hg
     omega
   ·rintro x ⟨x1, x2, x3⟩
    refine Yld.bindE (num_y hF _ (by omega) x1) (Yld.some ?_)
    rw [x3]; simp
end Go.Proofs.YtdjnlmmhbeeihaaGreatDoor

namespace Go.Sk
set_option linter.unusedSimpArgs false
set_option linter.unusedVariables false
theorem red_coprime {n d g : Nat} (hg : g = Nat.gcd n d) (h0 : 0 < g) : Nat.gcd (n / g) (d / g) = 1 := by
 obtain ⟨a, ha⟩ : g ∣ n := hg ▸ Nat.gcd_dvd_left n d
 obtain ⟨b, hb⟩ : g ∣ d := hg ▸ Nat.gcd_dvd_right n d
 have e1 : n / g = a := by rw [ha, Nat.mul_div_cancel_left _ h0]
 have e2 : d / g = b := by rw [hb, Nat.mul_div_cancel_left _ h0]
 rw [e1, e2]
 have e3 := Nat.gcd_mul_left g a b
 rw [← ha, ← hb, ← hg] at e3
 have e4 : g * 1 = g * Nat.gcd a b := by omega
 exact (Nat.eq_of_mul_eq_mul_left h0 e4).symm
theorem den_pos (r : Rat) : (0 : Int) < r.den := by have := r.den_nz; omega
theorem divInt_cop {n d : Int} (h0 : 0 < d) (hc : Nat.gcd n.natAbs d.natAbs = 1) : (Rat.divInt n d).num = n ∧ ((Rat.divInt n d).den : Int) = d := by
 have key := Rat.num_divInt_den ⟨n, d.natAbs, by omega, hc⟩
 have e : ((d.natAbs : Nat) : Int) = d := by omega
 dsimp only at key
 rw [e] at key
 rw [key]
 exact ⟨rfl, e⟩
def gcdS (n d : Int) : Int := if d < 0 then -(Nat.gcd n.natAbs d.natAbs : Nat) else (Nat.gcd n.natAbs d.natAbs : Nat)
theorem red {n d : Int} (hd : d ≠ 0) : gcdS n d ≠ 0 ∧ (Rat.divInt n d).num * gcdS n d = n ∧ ((Rat.divInt n d).den : Int) * gcdS n d = d := by
 have g0 : 0 < Nat.gcd n.natAbs d.natAbs := Nat.gcd_pos_of_pos_right _ (by omega)
 have hc := red_coprime (n := n.natAbs) (d := d.natAbs) rfl g0
 have d1 := Nat.div_mul_cancel (Nat.gcd_dvd_left n.natAbs d.natAbs)
 have d2 := Nat.div_mul_cancel (Nat.gcd_dvd_right n.natAbs d.natAbs)
 generalize hg : Nat.gcd n.natAbs d.natAbs = g at *
 generalize n.natAbs / g = a at *
 generalize hb : d.natAbs / g = b at *
 have b0 : 0 < b := by
  rcases Nat.eq_zero_or_pos b with e | e
  ·subst e; omega
  ·exact e
 have e0 : gcdS n d = if d < 0 then -(g : Int) else g := by unfold gcdS; rw [hg]
 have d1' : (a : Int) * g = n.natAbs := by rw [← d1]; simp
 have d2' : (b : Int) * g = d.natAbs := by rw [← d2]; simp
 obtain ⟨x, hx, hn⟩ : ∃ x : Int, x.natAbs = a ∧ x * gcdS n d = n := by
  rw [e0]
  by_cases h1 : d < 0
  ·by_cases h2 : n < 0
   ·exact ⟨a, by omega, by rw [if_pos h1, Int.mul_neg, d1']; omega⟩
   ·exact ⟨-a, by omega, by rw [if_pos h1, Int.mul_neg, Int.neg_mul, d1']; omega⟩
  ·by_cases h2 : n < 0
   ·exact ⟨-a, by omega, by rw [if_neg h1, Int.neg_mul, d1']; omega⟩
   ·exact ⟨a, by omega, by rw [if_neg h1, d1']; omega⟩
 have hdd : (b : Int) * gcdS n d = d := by
  rw [e0]
  by_cases h1 : d < 0
  ·rw [if_pos h1, Int.mul_neg, d2']; omega
  ·rw [if_neg h1, d2']; omega
 have hgs : gcdS n d ≠ 0 := by rw [e0]; split <;> omega
 have hq : Rat.divInt n d = Rat.divInt x b := by
  rw [Rat.divInt_eq_divInt_iff hd (by omega)]
  generalize gcdS n d = G at *
  subst hn; subst hdd
  rw [Int.mul_assoc, Int.mul_comm G]
 have hcop := divInt_cop (n := x) (d := b) (by omega) (by rw [hx]; exact hc)
 rw [hq, hcop.1, hcop.2]
 exact ⟨hgs, hn, hdd⟩
theorem divInt_q (n d : Int) : Rat.divInt n d = (n : Rat) / (d : Rat) := Rat.divInt_eq_div n d
theorem rat_q (r : Rat) : r = (r.num : Rat) / (r.den : Int) := by
 have := Rat.num_divInt_den r
 rw [divInt_q] at this
 exact this.symm
theorem prod_q (r s : Rat) : (r * s).num = (Rat.divInt r.num s.den).num * (Rat.divInt s.num r.den).num ∧ (((r * s).den : Nat) : Int) = (Rat.divInt r.num s.den).den * (Rat.divInt s.num r.den).den := by
  have r0 := den_pos r
  have s0 := den_pos s
  obtain ⟨g1, a1, a2⟩ := red (n := r.num) (d := s.den) (by omega)
  obtain ⟨g2, b1, b2⟩ := red (n := s.num) (d := r.den) (by omega)
  have ca := (Rat.divInt r.num s.den).reduced
  have cb := (Rat.divInt s.num r.den).reduced
  have cr := r.reduced
  have cs := s.reduced
  have pa := den_pos (Rat.divInt r.num s.den)
  have pb := den_pos (Rat.divInt s.num r.den)
  have er := rat_q r
  have es := rat_q s
  generalize ha : Rat.divInt r.num s.den = a at *
  generalize hb : Rat.divInt s.num r.den = b at *
  have e : r * s = Rat.divInt (a.num * b.num) (a.den * b.den) := by
    rw [divInt_q, Rat.intCast_mul, Rat.intCast_mul]
    have hab : r * s = a * b := by
      rw [← ha, ← hb, divInt_q, divInt_q]
      have h1 : ((r.den : Int) : Rat) ≠ 0 := by have : (r.den : Int) ≠ 0 := by omega
                                                simpa using this
      have h2 : ((s.den : Int) : Rat) ≠ 0 := by have : (s.den : Int) ≠ 0 := by omega
                                                simpa using this
      generalize ((r.den : Int) : Rat) = D1 at *
      generalize ((s.den : Int) : Rat) = D2 at *
      generalize (r.num : Rat) = N1 at *
      generalize (s.num : Rat) = N2 at *
      rw [er, es]
      grind
    have ea := rat_q a
    have eb := rat_q b
    rw [hab]
    have h1 : ((a.den : Int) : Rat) ≠ 0 := by have : (a.den : Int) ≠ 0 := by omega
                                              simpa using this
    have h2 : ((b.den : Int) : Rat) ≠ 0 := by have : (b.den : Int) ≠ 0 := by omega
                                              simpa using this
    generalize ((a.den : Int) : Rat) = D1 at *
    generalize ((b.den : Int) : Rat) = D2 at *
    generalize (a.num : Rat) = N1 at *
    generalize (b.num : Rat) = N2 at *
    rw [ea, eb]
    grind
  have k1 : Nat.Coprime a.num.natAbs b.den := by
    have hx : a.num.natAbs ∣ r.num.natAbs := Int.natAbs_dvd_natAbs.2 ⟨_, a1.symm⟩
    have hy : b.den ∣ r.den := by
      have : (b.den : Int) ∣ (r.den : Int) := ⟨_, b2.symm⟩
      exact Int.natCast_dvd_natCast.1 this
    exact Nat.Coprime.coprime_dvd_left hx (Nat.Coprime.coprime_dvd_right hy cr)
  have k2 : Nat.Coprime b.num.natAbs a.den := by
    have hx : b.num.natAbs ∣ s.num.natAbs := Int.natAbs_dvd_natAbs.2 ⟨_, b1.symm⟩
    have hy : a.den ∣ s.den := by
      have : (a.den : Int) ∣ (s.den : Int) := ⟨_, a2.symm⟩
      exact Int.natCast_dvd_natCast.1 this
    exact Nat.Coprime.coprime_dvd_left hx (Nat.Coprime.coprime_dvd_right hy cs)
  have hc : Nat.gcd (a.num * b.num).natAbs ((a.den : Int) * b.den).natAbs = 1 := by
    rw [Int.natAbs_mul, Int.natAbs_mul, Int.natAbs_natCast, Int.natAbs_natCast]
    exact Nat.Coprime.mul_left (Nat.Coprime.mul_right ca k1) (Nat.Coprime.mul_right k2 cb)
  rw [e]
  exact divInt_cop (Int.mul_pos pa pb) hc
end Go.Sk

namespace Go.Sk
set_option linter.unusedSimpArgs false
set_option linter.unusedVariables false
def cross (p q r s : Int) : Int := cmpZ (p * s) (r * q)
theorem cross_floor {p q r s : Int} (hq : 0 < q) (hs : 0 < s) (h : cmpZ (p / q) (r / s) ≠ 0) : cross p q r s = cmpZ (p / q) (r / s) := by
 have a1 := Int.ediv_mul_le p (show q ≠ 0 by omega)
 have a2 := Int.lt_ediv_add_one_mul_self p hq
 have b1 := Int.ediv_mul_le r (show s ≠ 0 by omega)
 have b2 := Int.lt_ediv_add_one_mul_self r hs
 generalize p / q = m at *
 generalize r / s = n at *
 have key : ∀ {m n p q r s : Int}, 0 < q → 0 < s → p < (m + 1) * q → n * s ≤ r → m < n → p * s < r * q := fun {m n p q r s} hq hs h1 h2 h => by
  have g1 := Int.mul_lt_mul_of_pos_right h1 hs
  have g2 := Int.mul_le_mul_of_nonneg_right h2 (Int.le_of_lt hq)
  have g3 := Int.mul_le_mul_of_nonneg_right (show m + 1 ≤ n by omega) (show 0 ≤ q * s from Int.mul_nonneg (Int.le_of_lt hq) (Int.le_of_lt hs))
  have e1 : (m + 1) * q * s = (m + 1) * (q * s) := Int.mul_assoc _ _ _
  have e2 : n * s * q = n * (q * s) := by rw [Int.mul_assoc, Int.mul_comm s]
  omega
 unfold cross cmpZ at *
 by_cases h1 : m < n
 ·have := key hq hs a2 b1 h1
  rw [if_pos h1, if_pos this]
 ·rw [if_neg h1] at h ⊢
  by_cases h2 : n < m
  ·have := key hs hq b2 a1 h2
   rw [if_pos h2, if_neg (by omega), if_pos this]
  ·rw [if_neg h2] at h; exact absurd rfl h
theorem cross_rest {p q r s : Int} (h : p / q = r / s) : cross p q r s = cmpZ (p % q * s) (r % s * q) := by
 have e1 := Int.mul_ediv_add_emod p q
 have e2 := Int.mul_ediv_add_emod r s
 rw [← h] at e2
 generalize p / q = k at *
 generalize p % q = a at *
 generalize r % s = b at *
 have e3 : p * s = a * s + k * q * s := by rw [← e1]; grind
 have e4 : r * q = b * q + k * q * s := by rw [← e2]; grind
 unfold cross cmpZ
 rw [e3, e4]
 have h1 : (a * s + k * q * s < b * q + k * q * s) = (a * s < b * q) := propext (by omega)
 have h2 : (b * q + k * q * s < a * s + k * q * s) = (b * q < a * s) := propext (by omega)
 simp only [h1, h2]
theorem cross_end {p q r s : Int} (hq : 0 < q) (hs : 0 < s) (h : p / q = r / s) (h0 : p % q = 0 ∨ r % s = 0) : cross p q r s = sgn (p % q) - sgn (r % s) := by
 rw [cross_rest h]
 have a0 := Int.emod_nonneg p (show q ≠ 0 by omega)
 have b0 := Int.emod_nonneg r (show s ≠ 0 by omega)
 generalize p % q = a at *
 generalize r % s = b at *
 unfold cmpZ sgn
 rcases h0 with rfl | rfl
 ·rw [Int.zero_mul]
  rcases (by omega : b = 0 ∨ 0 < b) with rfl | g
  ·simp
  ·have := Int.mul_pos g hq
   rw [if_pos this, if_pos rfl, if_neg (by omega), if_neg (by omega)]; rfl
 ·rw [Int.zero_mul]
  rcases (by omega : a = 0 ∨ 0 < a) with rfl | g
  ·simp
  ·have := Int.mul_pos g hs
   rw [if_neg (by omega), if_pos this, if_neg (by omega), if_neg (by omega), if_pos rfl]; rfl
theorem cross_next {p q r s : Int} (h : p / q = r / s) : cross p q r s = -cross q (p % q) s (r % s) := by
 rw [cross_rest h]
 unfold cross
 rw [Int.mul_comm (p % q), Int.mul_comm (r % s)]
 generalize s * (p % q) = u
 generalize q * (r % s) = v
 unfold cmpZ
 split <;> split <;> (try split) <;> omega
theorem fq_fr_pos (a : Int) {b : Int} (hb : 0 < b) : fq a b = a / b ∧ fr a b = a % b := by
 have h0 := Int.emod_nonneg a (show b ≠ 0 by omega)
 have h1 := Int.emod_lt_of_pos a hb
 have eb : absZ b = b := if_neg (by omega)
 have er : absZ (a % b) = a % b := if_neg (by omega)
 have := fq_unique (a := a) (b := b) (q := a / b) (r := a % b) (by omega) (Int.mul_ediv_add_emod a b).symm (by rw [eb, er]; exact h1) (.inr (by rw [decide_eq_decide]; omega))
 exact ⟨this.1.symm, this.2.symm⟩
end Go.Sk

namespace Go.Proofs.YtdjnlmmhbeeihaaGreatDoor
open Go Go.Sk
set_option linter.unusedSimpArgs false
set_option linter.unusedVariables false
def bf : Frc := ⟨bad, big 1⟩
def fits (r : Rat) : Prop := InM r.num ∧ InM r.den
noncomputable instance (r : Rat) : Decidable (fits r) := Classical.propDecidable _
def mk (r : Rat) : Frc := ⟨big r.num, big r.den⟩
noncomputable def ofR (r : Rat) : Frc := if fits r then mk r else bf
abbrev inF (x : Frc) : Prop := inB x.N ∧ inB x.D
def qF (x : Frc) : Option Rat := match iv x.N, iv x.D with
 | some n, some d => if 0 < d ∧ Nat.gcd n.natAbs d.natAbs = 1 then some (Rat.divInt n d) else none
 | _, _ => none
noncomputable def mkB (n d : Big) : Frc := match iv n, iv d with
 | some a, some b => if b = 0 then bf else ofR (Rat.divInt a b)
 | _, _ => bf
theorem in_mk {N D : Big} (h1 : inB N) (h2 : inB D) : inF ⟨N, D⟩ := And.intro h1 h2
theorem bf_in : inF bf := in_mk bad_in (big_in 1)
theorem mk_in (r : Rat) : inF (mk r) := in_mk (big_in _) (big_in _)
theorem ofR_in (r : Rat) : inF (ofR r) := by unfold ofR; split; exact mk_in r; exact bf_in
theorem mkB_in (n d : Big) : inF (mkB n d) := by
 unfold mkB; split
 ·split; exact bf_in; exact ofR_in _
 ·exact bf_in
theorem ofR_fits {r : Rat} (h : fits r) : ofR r = mk r := by unfold ofR; rw [if_pos h]
theorem ofR_not {r : Rat} (h : ¬ fits r) : ofR r = bf := by unfold ofR; rw [if_neg h]
theorem qF_none {N D : Big} (h : iv N = none) : qF ⟨N, D⟩ = none := by
 unfold qF
 dsimp only
 rw [h]
theorem qF_bf : qF bf = none := by
 unfold bf
 exact qF_none iv_bad
theorem qF_of {N D : Big} {n d : Int} (hn : iv N = some n) (hd : iv D = some d) (h0 : 0 < d) (hc : Nat.gcd n.natAbs d.natAbs = 1) : qF ⟨N, D⟩ = some (Rat.divInt n d) := by
 unfold qF
 dsimp only
 rw [hn, hd]
 dsimp only
 rw [if_pos ⟨h0, hc⟩]
theorem qF_mk {r : Rat} (h : fits r) : qF (mk r) = some r := by
 have hc : Nat.gcd r.num.natAbs ((r.den : Int)).natAbs = 1 := by rw [Int.natAbs_natCast]; exact r.reduced
 have := qF_of (iv_big h.1) (iv_big h.2) (den_pos r) hc
 rw [Rat.num_divInt_den] at this
 exact this
theorem qF_some {x : Frc} {r : Rat} (hx : inF x) (h : qF x = some r) : fits r ∧ x = mk r := by
 unfold qF at h
 split at h
 ·next n d hn hd =>
  obtain ⟨_, en, rn⟩ := iv_some hx.1 hn
  obtain ⟨_, ed, rd⟩ := iv_some hx.2 hd
  split at h
  ·next hc =>
   have e := divInt_cop hc.1 hc.2
   cases h
   refine ⟨⟨by rw [e.1]; exact rn, by rw [e.2]; exact rd⟩, ?_⟩
   unfold mk
   rw [e.1, e.2, ← en, ← ed]
  ·cases h
 ·cases h
theorem fq_mul {q g : Int} (h : g ≠ 0) : fq (q * g) g = q := by
 refine (fq_unique h (r := 0) (by rw [Int.mul_comm]; omega) ?_ (.inl rfl)).1.symm
 have := absZ_pos h
 simpa [absZ] using this
theorem red_fits {n d : Int} (hd : d ≠ 0) (rn : InM n) (rd : InM d) : fits (Rat.divInt n d) := by
 obtain ⟨g0, e1, e2⟩ := red (n := n) hd
 have key : ∀ {a g m : Int}, g ≠ 0 → a * g = m → InM m → InM a := fun {a g m} hg e hm => by
  have h1 : a.natAbs * g.natAbs = m.natAbs := by rw [← Int.natAbs_mul, e]
  have h2 : a.natAbs * 1 ≤ a.natAbs * g.natAbs := Nat.mul_le_mul_left _ (by omega)
  constructor <;> have := hm.1 <;> have := hm.2 <;> omega
 exact ⟨key g0 e1 rn, key g0 e2 rd⟩
theorem goodz_y {x : Big} : q_good_S FF x = some (goodB x) := by
 refine Yld.eq ?_
 unfold q_good_S goodB
 cases h : x.Bad with
 | true => exact Yld.g0 rfl (Yld.some (by simp))
 | false => exact Yld.g1 rfl (Yld.bindE (Valid_y FF x) (Yld.some (by simp [h])))
theorem one_y : q_one_S FF = some (big 1) := by
 unfold q_one_S
 rw [Of_v (by decide) (by decide)]; rfl
theorem Bad_f : q_Bad_S FF = some bf := by
 unfold q_Bad_S
 rw [Bad_y, Option.bind_some, one_y]; rfl
theorem sgn_pos {d : Int} : decide (0 < sgn d) = decide (0 < d) := by rw [decide_eq_decide]; unfold sgn; split <;> (try split) <;> omega
theorem sgn_neg {d : Int} : decide (sgn d < 0) = decide (d < 0) := by rw [decide_eq_decide]; unfold sgn; split <;> (try split) <;> omega
theorem sgn_zero {d : Int} : decide (sgn d = 0) = decide (d = 0) := by rw [decide_eq_decide]; unfold sgn; split <;> (try split) <;> omega
theorem Good_f {x : Frc} (hx : inF x) : q_Good_S FF x = some (qF x).isSome := by
 refine Yld.eq ?_
 unfold q_Good_S qF
 refine Yld.bindE goodz_y ?_
 cases hn : iv x.N with
 | none =>
  rw [iv_none hn]
  exact Yld.g0 rfl (Yld.g0 rfl (Yld.g0 rfl (Yld.g0 rfl (Yld.some rfl))))
 | some n =>
  obtain ⟨gn, en, rn⟩ := iv_some hx.1 hn
  rw [gn]
  refine Yld.g1 rfl (Yld.bindE goodz_y ?_)
  cases hd : iv x.D with
  | none =>
   rw [iv_none hd]
   exact Yld.g0 rfl (Yld.g0 rfl (Yld.g0 rfl (Yld.some rfl)))
  | some d =>
   obtain ⟨gd, ed, rd⟩ := iv_some hx.2 hd
   rw [gd, en, ed]
   refine Yld.g1 rfl (Yld.bindE (Sign_v rd) ?_)
   rw [sgn_pos]
   by_cases h0 : 0 < d
   ·rw [decide_eq_true h0]
    refine Yld.g1 rfl (Yld.bindE (Gcd_v rn rd) (Yld.g1 rfl (Yld.bindE one_y (Yld.some ?_))))
    have hg : InM (Nat.gcd n.natAbs d.natAbs : Nat) := by
     have := Nat.gcd_le_right n.natAbs (show 0 < d.natAbs by omega)
     have := rd.1; have := rd.2
     constructor <;> omega
    have e : (big (Nat.gcd n.natAbs d.natAbs : Nat) = big 1) = (Nat.gcd n.natAbs d.natAbs = 1) := by
     rw [eq_iff_iff, big_inj hg one_InM]; omega
    simp only [e]
    by_cases h1 : Nat.gcd n.natAbs d.natAbs = 1
    ·simp [h1, h0]
    ·simp [h1]
   ·rw [decide_eq_false h0]
    refine Yld.g0 rfl (Yld.g0 rfl (Yld.some ?_))
    simp [h0]
theorem Make_f {n d : Big} (hn : inB n) (hd : inB d) : q_Make_S FF n d = some (mkB n d) := by
 refine Yld.eq ?_
 unfold q_Make_S mkB
 refine Yld.bindE goodz_y ?_
 cases ha : iv n with
 | none =>
  rw [iv_none ha]
  exact Yld.g0 rfl (Yld.g0 rfl (Yld.ift rfl (Yld.bindE Bad_f (Yld.some rfl))))
 | some a =>
  obtain ⟨ga, rfl, ra⟩ := iv_some hn ha
  rw [ga]
  refine Yld.g1 rfl (Yld.bindE goodz_y ?_)
  cases hb : iv d with
  | none =>
   rw [iv_none hb]
   exact Yld.g0 rfl (Yld.ift rfl (Yld.bindE Bad_f (Yld.some rfl)))
  | some b =>
   obtain ⟨gb, rfl, rb⟩ := iv_some hd hb
   rw [gb]
   refine Yld.g1 rfl (Yld.bindE (Sign_v rb) ?_)
   rw [sgn_zero]
   by_cases h0 : b = 0
   ·rw [decide_eq_true h0]
    exact Yld.ift rfl (Yld.bindE Bad_f (Yld.some (by simp [h0])))
   ·rw [decide_eq_false h0]
    have hg : InM (Nat.gcd a.natAbs b.natAbs : Nat) := by
     have := Nat.gcd_le_right a.natAbs (show 0 < b.natAbs by omega)
     have := rb.1; have := rb.2
     constructor <;> omega
    have hgs : InM (gcdS a b) := by unfold gcdS; split <;> (have := hg.1; have := hg.2; constructor <;> omega)
    obtain ⟨g0, e1, e2⟩ := red (n := a) h0
    refine Yld.iff rfl (Yld.bindE (Gcd_v ra rb) (Yld.bind (P := fun g => g = big (gcdS a b)) (Yld.bindE (Sign_v rb) ?_) ?_))
    ·rw [sgn_neg]
     unfold gcdS
     refine Yld.ite (fun h => ?_) (fun h => ?_)
     ·rw [if_pos (of_decide_eq_true h), Neg_y FF1 (big_in _), one_big hg]; exact Yld.some rfl
     ·rw [if_neg (of_decide_eq_false h)]; exact Yld.some rfl
    ·rintro g rfl
     refine Yld.bindE (Quo_v ra hgs g0) (Yld.bindE (Quo_v rb hgs g0) (Yld.some ?_))
     dsimp only
     rw [if_neg h0, ofR_fits (red_fits h0 ra rb)]
     unfold mk
     have f1 : fq a (gcdS a b) = (Rat.divInt a b).num := by
      have := fq_mul (q := (Rat.divInt a b).num) g0
      rwa [e1] at this
     have f2 : fq b (gcdS a b) = ((Rat.divInt a b).den : Int) := by
      have := fq_mul (q := ((Rat.divInt a b).den : Int)) g0
      rwa [e2] at this
     rw [f1, f2]
end Go.Proofs.YtdjnlmmhbeeihaaGreatDoor

namespace Go.Proofs.YtdjnlmmhbeeihaaGreatDoor
open Go Go.Sk
set_option linter.unusedSimpArgs false
set_option linter.unusedVariables false
def un (f : Rat → Frc) (x : Frc) : Frc := match qF x with
 | some r => f r
 | none => bf
def bi (f : Rat → Rat → Frc) (x y : Frc) : Frc := match qF x, qF y with
 | some r, some s => f r s
 | _, _ => bf
theorem un_none {f : Rat → Frc} {x : Frc} (h : qF x = none) : un f x = bf := by unfold un; rw [h]
theorem un_some {f : Rat → Frc} {x : Frc} {r : Rat} (h : qF x = some r) : un f x = f r := by unfold un; rw [h]
theorem bi_none1 {f : Rat → Rat → Frc} {x y : Frc} (h : qF x = none) : bi f x y = bf := by unfold bi; rw [h]
theorem bi_none2 {f : Rat → Rat → Frc} {x y : Frc} (h : qF y = none) : bi f x y = bf := by unfold bi; rw [h]; cases qF x <;> rfl
theorem bi_some {f : Rat → Rat → Frc} {x y : Frc} {r s : Rat} (h : qF x = some r) (h2 : qF y = some s) : bi f x y = f r s := by unfold bi; rw [h, h2]
theorem neg_nd (r : Rat) : (-r).num = -r.num ∧ (-r).den = r.den := ⟨rfl, rfl⟩
theorem neg_fits {r : Rat} (h : fits r) : fits (-r) := by
 obtain ⟨⟨h1, h2⟩, h3⟩ := h
 exact ⟨by rw [(neg_nd r).1]; constructor <;> omega, by rw [(neg_nd r).2]; exact h3⟩
theorem mk_N (r : Rat) : (mk r).N = big r.num := by simp only [mk]
theorem mk_D (r : Rat) : (mk r).D = big r.den := by simp only [mk]
theorem Neg_f {x : Frc} (hx : inF x) : q_Neg_S FF x = some (un (fun r => ofR (-r)) x) := by
 refine Yld.eq ?_
 unfold q_Neg_S
 refine Yld.bindE (Good_f hx) ?_
 cases hq : qF x with
 | none => rw [un_none hq]; exact Yld.ift rfl (Yld.bindE Bad_f (Yld.some rfl))
 | some r =>
  obtain ⟨hf, rfl⟩ := qF_some hx hq
  rw [un_some hq, ofR_fits (neg_fits hf), mk_N, mk_D]
  refine Yld.iff rfl (Yld.bindE (x := big (-r.num)) (by rw [Neg_y FF1 (big_in _), one_big hf.1]; rfl) (Yld.some ?_))
  unfold mk
  rw [(neg_nd r).1, (neg_nd r).2]
theorem un_in {f : Rat → Frc} (hf : ∀ r, inF (f r)) (x : Frc) : inF (un f x) := by unfold un; split; exact hf _; exact bf_in
theorem bi_in {f : Rat → Rat → Frc} (hf : ∀ r s, inF (f r s)) (x y : Frc) : inF (bi f x y) := by unfold bi; split; exact hf _ _; exact bf_in
theorem mkB_big {a b : Int} (ra : InM a) (rb : InM b) (h : b ≠ 0) : mkB (big a) (big b) = ofR (Rat.divInt a b) := by
 unfold mkB
 rw [iv_big ra, iv_big rb]
 dsimp only
 rw [if_neg h]
def qd (r s : Rat) : Int := ((r.den / Nat.gcd r.den s.den : Nat) : Int)
theorem qd_mul (r s : Rat) : (r.den : Int) = qd r s * (Nat.gcd r.den s.den : Nat) := by
 unfold qd
 have := Nat.div_mul_cancel (Nat.gcd_dvd_left r.den s.den)
 rw [← Int.natCast_mul, this]
theorem gcd_den_pos (r s : Rat) : (0 : Int) < (Nat.gcd r.den s.den : Nat) := by
 have := Nat.gcd_pos_of_pos_left s.den (show 0 < r.den from r.den_pos)
 omega
theorem qd_pos (r s : Rat) : 0 < qd r s := by
 have h := qd_mul r s
 have h0 := den_pos r
 have h1 := gcd_den_pos r s
 rcases (by omega : qd r s ≤ 0 ∨ 0 < qd r s) with h2 | h2
 ·have := Int.mul_nonpos_of_nonpos_of_nonneg h2 (Int.le_of_lt h1)
  omega
 ·exact h2
theorem qd_le (r s : Rat) : qd r s ≤ r.den := by
 unfold qd
 have := Nat.div_le_self r.den (Nat.gcd r.den s.den)
 omega
abbrev plus := fun a b : Int => some (a + b)
noncomputable def addR (r s : Rat) : Frc := mkB (two plus (big (r.num * qd s r)) (big (s.num * qd r s))) (big (qd r s * s.den))
theorem toB_some (z : Int) : toB (some z) = big z := rfl
theorem mkB_bad1 {x y : Big} (h : iv x = none) : mkB x y = bf := by unfold mkB; rw [h]
theorem mkB_bad2 {x y : Big} (h : iv y = none) : mkB x y = bf := by unfold mkB; rw [h]; cases iv x <;> rfl
theorem iv_out {z : Int} (h : ¬ InM z) : iv (big z) = none := by rw [big_out h, iv_bad]
theorem qd_in {r s : Rat} (h : fits r) : InM (qd r s) := by
 have := qd_pos r s
 have := qd_le r s
 have := h.2.2
 have := MM_pos
 constructor <;> omega
theorem fq_den (r s : Rat) : fq (r.den : Int) (Nat.gcd r.den s.den : Nat) = qd r s := by
 have := fq_mul (q := qd r s) (g := (Nat.gcd r.den s.den : Nat)) (by have := gcd_den_pos r s; omega)
 rwa [← qd_mul] at this
theorem gcd_in {r s : Rat} (h : fits r) : InM (Nat.gcd r.den s.den : Nat) := by
 have := Nat.gcd_le_left s.den (show 0 < r.den from r.den_pos)
 have := h.2.2
 have := MM_pos
 constructor <;> omega
theorem addR_in (r s : Rat) : inF (addR r s) := mkB_in _ _
theorem Add_f {x y : Frc} (hx : inF x) (hy : inF y) : q_Add_S FF x y = some (bi addR x y) := by
 refine Yld.eq ?_
 unfold q_Add_S
 refine Yld.bindE (Good_f hx) ?_
 cases hq : qF x with
 | none => rw [bi_none1 hq]; exact Yld.g0 rfl (Yld.ift rfl (Yld.bindE Bad_f (Yld.some rfl)))
 | some r =>
  obtain ⟨hf, rfl⟩ := qF_some hx hq
  refine Yld.g1 rfl (Yld.bindE (Good_f hy) ?_)
  cases hq2 : qF y with
  | none => rw [bi_none2 hq2]; exact Yld.ift rfl (Yld.bindE Bad_f (Yld.some rfl))
  | some s =>
   obtain ⟨hs, rfl⟩ := qF_some hy hq2
   rw [bi_some hq hq2, mk_N, mk_D, mk_N, mk_D]
   have e1 := fq_den r s
   have e2 := fq_den s r
   rw [Nat.gcd_comm] at e2
   have hg := gcd_den_pos r s
   have gi := gcd_in (s := s) hf
   refine Yld.iff rfl (Yld.bindE (Gcd_v hf.2 hs.2) ?_)
   rw [Int.natAbs_natCast, Int.natAbs_natCast]
   refine Yld.bindE (Quo_v hf.2 gi (by omega)) (Yld.bindE (Quo_v hs.2 gi (by omega)) ?_)
   rw [e1, e2]
   refine Yld.bindE (Mul_v hf.1 (qd_in hs)) (Yld.bindE (Mul_v hs.1 (qd_in hf)) (Yld.bindE (Add_y FF1 (big_in _) (big_in _)) (Yld.bindE (Mul_v (qd_in hf) hs.2) (Yld.bindE (Make_f (two_in _ _ _) (big_in _)) (Yld.some rfl)))))
noncomputable def subR (r s : Rat) : Frc := addR r (-s)
theorem Sub_f {x y : Frc} (hx : inF x) (hy : inF y) : q_Sub_S FF x y = some (bi subR x y) := by
 refine Yld.eq ?_
 unfold q_Sub_S
 refine Yld.bindE (Neg_f hy) (Yld.bindE (Add_f hx (un_in (fun r => ofR_in _) _)) (Yld.some ?_))
 cases hq2 : qF y with
 | none => rw [un_none hq2, bi_none2 hq2, bi_none2 qF_bf]
 | some s =>
  obtain ⟨hs, rfl⟩ := qF_some hy hq2
  rw [un_some hq2, ofR_fits (neg_fits hs)]
  cases hq : qF x with
  | none => rw [bi_none1 hq, bi_none1 hq]
  | some r => rw [bi_some hq hq2, bi_some hq (qF_mk (neg_fits hs))]; rfl
theorem prod_fits {r s : Rat} (hr : fits r) (hs : fits s) : fits (Rat.divInt r.num s.den) ∧ fits (Rat.divInt s.num r.den) :=
 ⟨red_fits (by have := den_pos s; omega) hr.1 hs.2, red_fits (by have := den_pos r; omega) hs.1 hr.2⟩
noncomputable def mulR (r s : Rat) : Frc := ofR (r * s)
theorem Mul_f {x y : Frc} (hx : inF x) (hy : inF y) : q_Mul_S FF x y = some (bi mulR x y) := by
 refine Yld.eq ?_
 unfold q_Mul_S
 refine Yld.bindE (Good_f hx) ?_
 cases hq : qF x with
 | none => rw [bi_none1 hq]; exact Yld.g0 rfl (Yld.ift rfl (Yld.bindE Bad_f (Yld.some rfl)))
 | some r =>
  obtain ⟨hf, rfl⟩ := qF_some hx hq
  refine Yld.g1 rfl (Yld.bindE (Good_f hy) ?_)
  cases hq2 : qF y with
  | none => rw [bi_none2 hq2]; exact Yld.ift rfl (Yld.bindE Bad_f (Yld.some rfl))
  | some s =>
   obtain ⟨hs, rfl⟩ := qF_some hy hq2
   rw [bi_some hq hq2, mk_N, mk_D, mk_N, mk_D]
   have h0 := den_pos r
   have h1 := den_pos s
   obtain ⟨fa, fb⟩ := prod_fits hf hs
   have hp := prod_q r s
   refine Yld.iff rfl (Yld.bindE (Make_f (big_in _) (big_in _)) (Yld.bindE (Make_f (big_in _) (big_in _)) ?_))
   rw [mkB_big hf.1 hs.2 (by omega), mkB_big hs.1 hf.2 (by omega), ofR_fits fa, ofR_fits fb, mk_N, mk_D, mk_N, mk_D]
   refine Yld.bindE (Mul_v fa.1 fb.1) (Yld.bindE (Mul_v fa.2 fb.2) ?_)
   rw [← hp.1, ← hp.2, big_Bad, big_Bad]
   unfold mulR
   by_cases h : fits (r * s)
   ·rw [ofR_fits h, decide_eq_true h.1, decide_eq_true h.2]
    exact Yld.iff rfl (Yld.some rfl)
   ·rw [ofR_not h]
    refine Yld.ift ?_ (Yld.bindE Bad_f (Yld.some rfl))
    by_cases h2 : InM (r * s).num
    ·have h3 : ¬ InM (r * s).den := fun h3 => h ⟨h2, h3⟩
     simp [h3]
    ·simp [h2]
theorem inv_r (s : Rat) : Rat.divInt s.den s.num = s⁻¹ := (Rat.inv_def s).symm
noncomputable def divR (r s : Rat) : Frc := if s.num = 0 then bf else ofR (r / s)
theorem mkB_zero {a : Int} {x : Big} : mkB x (big 0) = bf := by
 unfold mkB
 rw [iv_big zero_InM]
 cases iv x with
 | none => rfl
 | some a => dsimp only; rw [if_pos rfl]
theorem inv_fits {s : Rat} (h : s.num ≠ 0) (hs : fits s) : fits s⁻¹ := by rw [← inv_r]; exact red_fits h hs.2 hs.1
theorem mkB_inv {s : Rat} (hs : fits s) (h : s.num ≠ 0) : mkB (big s.den) (big s.num) = mk s⁻¹ := by
 rw [mkB_big hs.2 hs.1 h, inv_r, ofR_fits (inv_fits h hs)]
theorem Div_f {x y : Frc} (hx : inF x) (hy : inF y) : q_Div_S FF x y = some (bi divR x y) := by
 refine Yld.eq ?_
 unfold q_Div_S
 refine Yld.bindE (Good_f hy) ?_
 cases hq2 : qF y with
 | none => rw [bi_none2 hq2]; exact Yld.ift rfl (Yld.bindE Bad_f (Yld.some rfl))
 | some s =>
  obtain ⟨hs, rfl⟩ := qF_some hy hq2
  refine Yld.iff rfl ?_
  rw [mk_N, mk_D]
  refine Yld.bindE (Make_f (big_in _) (big_in _)) (Yld.bindE (Mul_f hx (mkB_in _ _)) (Yld.some ?_))
  cases hq : qF x with
  | none => rw [bi_none1 hq, bi_none1 hq]
  | some r =>
   rw [bi_some hq hq2]
   unfold divR
   by_cases h : s.num = 0
   ·rw [if_pos h, h, mkB_zero (a := 0), bi_none2 qF_bf]
   ·rw [if_neg h, mkB_inv hs h, bi_some hq (qF_mk (inv_fits h hs))]
    unfold mulR
    rw [Rat.div_def]
theorem Sign_f {x : Frc} (hx : inF x) : q_Sign_S FF x = some (match qF x with | some r => sgn r.num | none => 0) := by
 refine Yld.eq ?_
 unfold q_Sign_S
 refine Yld.bindE (Good_f hx) ?_
 cases hq : qF x with
 | none => exact Yld.ift rfl (Yld.some rfl)
 | some r =>
  obtain ⟨hf, rfl⟩ := qF_some hx hq
  exact Yld.iff rfl (Yld.bindE (Sign_v hf.1) (Yld.some rfl))
theorem Whole_f {n : Big} (hn : inB n) : q_Whole_S FF n = some (mkB n (big 1)) := by
 unfold q_Whole_S
 rw [one_y, Option.bind_some, Make_f hn (big_in 1)]; rfl
theorem int_nd (z : Int) : ((z : Rat)).num = z ∧ ((z : Rat)).den = 1 := ⟨rfl, rfl⟩
theorem int_fits {z : Int} (h : InM z) : fits (z : Rat) := by
 refine ⟨by rw [(int_nd z).1]; exact h, ?_⟩
 rw [(int_nd z).2]
 exact one_InM
theorem divInt_one (z : Int) : Rat.divInt z 1 = (z : Rat) := by
 rw [divInt_q]
 have : ((1 : Int) : Rat) = 1 := rfl
 rw [this, Rat.div_def]
 grind
theorem mkB_one {z : Int} (h : InM z) : mkB (big z) (big 1) = mk (z : Rat) := by
 rw [mkB_big h one_InM (by decide), divInt_one, ofR_fits (int_fits h)]
theorem in64_M {n : Int} (h : -9223372036854775808 ≤ n ∧ n ≤ 9223372036854775807) : InM n := by
 have := MM_big
 constructor <;> omega
theorem Of_f {n : Int} (h : -9223372036854775808 ≤ n ∧ n ≤ 9223372036854775807) : q_Of_S FF n = some (mk (n : Rat)) := by
 unfold q_Of_S
 rw [Of_v h.1 h.2, Option.bind_some, Whole_f (big_in _), mkB_one (in64_M h)]; rfl
theorem Frac_f {a b : Int} (ha : -9223372036854775808 ≤ a ∧ a ≤ 9223372036854775807) (hb : -9223372036854775808 ≤ b ∧ b ≤ 9223372036854775807) : q_Frac_S FF a b = some (mkB (big a) (big b)) := by
 unfold q_Frac_S
 rw [Of_v ha.1 ha.2, Option.bind_some, Of_v hb.1 hb.2, Option.bind_some, Make_f (big_in _) (big_in _)]; rfl
end Go.Proofs.YtdjnlmmhbeeihaaGreatDoor

namespace Go.Proofs.YtdjnlmmhbeeihaaGreatDoor
open Go Go.Sk
set_option linter.unusedSimpArgs false
set_option linter.unusedVariables false
theorem rSign_v {a : Int} (ra : InM a) : r3_Sign_S FF (big a) = some (sgn a) := by rw [rSign_y FF2 (big_in a), iv_big ra]
theorem rMul_v {a b : Int} (ra : InM a) (rb : InM b) : r3_Mul_S FF (big a) (big b) = some (big (a * b)) := by rw [rMul_y FF2 (big_in a) (big_in b), two_big ra rb]; rfl
theorem rQuo_v {a b : Int} (ra : InM a) (rb : InM b) (h : b ≠ 0) : r3_Quo_S FF (big a) (big b) = some (big (fq a b)) := by rw [rQuo_y FF2 (big_in a) (big_in b), two_big ra rb]; simp only [quoO, h, if_false]; rfl
theorem rOf_v {n : Int} (h0 : -9223372036854775808 ≤ n) (h1 : n ≤ 9223372036854775807) : r3_Of_S FF n = some (big n) := rOf_y FF2 h0 h1
theorem rone_y : r4_one_S FF = some (big 1) := by
 unfold r4_one_S
 rw [rOf_v (by decide) (by decide)]; rfl
theorem rBad_f : r4_Bad_S FF = some bf := by
 unfold r4_Bad_S
 rw [rBad_y, Option.bind_some, rone_y]; rfl
theorem rGood_f {x : Frc} (hx : inF x) : r4_Good_S FF x = some (qF x).isSome := by
 refine Yld.eq ?_
 unfold r4_Good_S qF
 refine Yld.bindE (rGood_y FF2 hx.1) ?_
 cases hn : iv x.N with
 | none =>
  rw [iv_none hn]
  exact Yld.g0 rfl (Yld.ift rfl (Yld.some rfl))
 | some n =>
  obtain ⟨gn, en, rn⟩ := iv_some hx.1 hn
  rw [gn]
  refine Yld.g1 rfl (Yld.bindE (rGood_y FF2 hx.2) ?_)
  cases hd : iv x.D with
  | none =>
   rw [iv_none hd]
   exact Yld.ift rfl (Yld.some rfl)
  | some d =>
   obtain ⟨gd, ed, rd⟩ := iv_some hx.2 hd
   rw [gd, en, ed]
   refine Yld.iff rfl (Yld.bindE (rSign_v rd) ?_)
   rw [sgn_pos]
   by_cases h0 : 0 < d
   ·rw [decide_eq_true h0]
    refine Yld.g1 rfl (Yld.bindE (rGcd_v rn rd) (Yld.g1 rfl (Yld.bindE rone_y (Yld.some ?_))))
    have hg : InM (Nat.gcd n.natAbs d.natAbs : Nat) := by
     have := Nat.gcd_le_right n.natAbs (show 0 < d.natAbs by omega)
     have := rd.1; have := rd.2
     constructor <;> omega
    have e : (big (Nat.gcd n.natAbs d.natAbs : Nat) = big 1) = (Nat.gcd n.natAbs d.natAbs = 1) := by
     rw [eq_iff_iff, big_inj hg one_InM]; omega
    simp only [e]
    by_cases h1 : Nat.gcd n.natAbs d.natAbs = 1
    ·simp [h1, h0]
    ·simp [h1]
   ·rw [decide_eq_false h0]
    refine Yld.g0 rfl (Yld.g0 rfl (Yld.some ?_))
    simp [h0]
theorem rMake_f {n d : Big} (hn : inB n) (hd : inB d) : r4_Make_S FF n d = some (mkB n d) := by
 refine Yld.eq ?_
 unfold r4_Make_S mkB
 refine Yld.bindE (rGood_y FF2 hn) ?_
 cases ha : iv n with
 | none =>
  rw [iv_none ha]
  exact Yld.g0 rfl (Yld.g0 rfl (Yld.ift rfl (Yld.bindE rBad_f (Yld.some rfl))))
 | some a =>
  obtain ⟨ga, rfl, ra⟩ := iv_some hn ha
  rw [ga]
  refine Yld.g1 rfl (Yld.bindE (rGood_y FF2 hd) ?_)
  cases hb : iv d with
  | none =>
   rw [iv_none hb]
   exact Yld.g0 rfl (Yld.ift rfl (Yld.bindE rBad_f (Yld.some rfl)))
  | some b =>
   obtain ⟨gb, rfl, rb⟩ := iv_some hd hb
   rw [gb]
   refine Yld.g1 rfl (Yld.bindE (rSign_v rb) ?_)
   rw [sgn_zero]
   by_cases h0 : b = 0
   ·rw [decide_eq_true h0]
    exact Yld.ift rfl (Yld.bindE rBad_f (Yld.some (by simp [h0])))
   ·rw [decide_eq_false h0]
    have hg : InM (Nat.gcd a.natAbs b.natAbs : Nat) := by
     have := Nat.gcd_le_right a.natAbs (show 0 < b.natAbs by omega)
     have := rb.1; have := rb.2
     constructor <;> omega
    have hgs : InM (gcdS a b) := by unfold gcdS; split <;> (have := hg.1; have := hg.2; constructor <;> omega)
    obtain ⟨g0, e1, e2⟩ := red (n := a) h0
    refine Yld.iff rfl (Yld.bindE (rGcd_v ra rb) (Yld.bind (P := fun g => g = big (gcdS a b)) (Yld.bindE (rSign_v rb) ?_) ?_))
    ·rw [sgn_neg]
     unfold gcdS
     refine Yld.ite (fun h => ?_) (fun h => ?_)
     ·rw [if_pos (of_decide_eq_true h), rNeg_y FF2 (big_in _), one_big hg]; exact Yld.some rfl
     ·rw [if_neg (of_decide_eq_false h)]; exact Yld.some rfl
    ·rintro g rfl
     refine Yld.bindE (rQuo_v ra hgs g0) (Yld.bindE (rQuo_v rb hgs g0) (Yld.some ?_))
     dsimp only
     rw [if_neg h0, ofR_fits (red_fits h0 ra rb)]
     unfold mk
     have f1 : fq a (gcdS a b) = (Rat.divInt a b).num := by
      have := fq_mul (q := (Rat.divInt a b).num) g0
      rwa [e1] at this
     have f2 : fq b (gcdS a b) = ((Rat.divInt a b).den : Int) := by
      have := fq_mul (q := ((Rat.divInt a b).den : Int)) g0
      rwa [e2] at this
     rw [f1, f2]
theorem rNeg_f {x : Frc} (hx : inF x) : r4_Neg_S FF x = some (un (fun r => ofR (-r)) x) := by
 refine Yld.eq ?_
 unfold r4_Neg_S
 refine Yld.bindE (rGood_f hx) ?_
 cases hq : qF x with
 | none => rw [un_none hq]; exact Yld.ift rfl (Yld.bindE rBad_f (Yld.some rfl))
 | some r =>
  obtain ⟨hf, rfl⟩ := qF_some hx hq
  rw [un_some hq, ofR_fits (neg_fits hf), mk_N, mk_D]
  refine Yld.iff rfl (Yld.bindE (x := big (-r.num)) (by rw [rNeg_y FF2 (big_in _), one_big hf.1]; rfl) (Yld.some ?_))
  unfold mk
  rw [(neg_nd r).1, (neg_nd r).2]
theorem rAdd_f {x y : Frc} (hx : inF x) (hy : inF y) : r4_Add_S FF x y = some (bi addR x y) := by
 refine Yld.eq ?_
 unfold r4_Add_S
 refine Yld.bindE (rGood_f hx) ?_
 cases hq : qF x with
 | none => rw [bi_none1 hq]; exact Yld.g0 rfl (Yld.ift rfl (Yld.bindE rBad_f (Yld.some rfl)))
 | some r =>
  obtain ⟨hf, rfl⟩ := qF_some hx hq
  refine Yld.g1 rfl (Yld.bindE (rGood_f hy) ?_)
  cases hq2 : qF y with
  | none => rw [bi_none2 hq2]; exact Yld.ift rfl (Yld.bindE rBad_f (Yld.some rfl))
  | some s =>
   obtain ⟨hs, rfl⟩ := qF_some hy hq2
   rw [bi_some hq hq2, mk_N, mk_D, mk_N, mk_D]
   have e1 := fq_den r s
   have e2 := fq_den s r
   rw [Nat.gcd_comm] at e2
   have hg := gcd_den_pos r s
   have gi := gcd_in (s := s) hf
   refine Yld.iff rfl (Yld.bindE (rGcd_v hf.2 hs.2) ?_)
   rw [Int.natAbs_natCast, Int.natAbs_natCast]
   refine Yld.bindE (rQuo_v hf.2 gi (by omega)) (Yld.bindE (rQuo_v hs.2 gi (by omega)) ?_)
   rw [e1, e2]
   refine Yld.bindE (rMul_v hf.1 (qd_in hs)) (Yld.bindE (rMul_v hs.1 (qd_in hf)) (Yld.bindE (rAdd_y FF2 (big_in _) (big_in _)) (Yld.bindE (rMul_v (qd_in hf) hs.2) (Yld.bindE (rMake_f (two_in _ _ _) (big_in _)) (Yld.some rfl)))))
theorem rSub_f {x y : Frc} (hx : inF x) (hy : inF y) : r4_Sub_S FF x y = some (bi subR x y) := by
 refine Yld.eq ?_
 unfold r4_Sub_S
 refine Yld.bindE (rNeg_f hy) (Yld.bindE (rAdd_f hx (un_in (fun r => ofR_in _) _)) (Yld.some ?_))
 cases hq2 : qF y with
 | none => rw [un_none hq2, bi_none2 hq2, bi_none2 qF_bf]
 | some s =>
  obtain ⟨hs, rfl⟩ := qF_some hy hq2
  rw [un_some hq2, ofR_fits (neg_fits hs)]
  cases hq : qF x with
  | none => rw [bi_none1 hq, bi_none1 hq]
  | some r => rw [bi_some hq hq2, bi_some hq (qF_mk (neg_fits hs))]; rfl
theorem rMul_f {x y : Frc} (hx : inF x) (hy : inF y) : r4_Mul_S FF x y = some (bi mulR x y) := by
 refine Yld.eq ?_
 unfold r4_Mul_S
 refine Yld.bindE (rGood_f hx) ?_
 cases hq : qF x with
 | none => rw [bi_none1 hq]; exact Yld.g0 rfl (Yld.ift rfl (Yld.bindE rBad_f (Yld.some rfl)))
 | some r =>
  obtain ⟨hf, rfl⟩ := qF_some hx hq
  refine Yld.g1 rfl (Yld.bindE (rGood_f hy) ?_)
  cases hq2 : qF y with
  | none => rw [bi_none2 hq2]; exact Yld.ift rfl (Yld.bindE rBad_f (Yld.some rfl))
  | some s =>
   obtain ⟨hs, rfl⟩ := qF_some hy hq2
   rw [bi_some hq hq2, mk_N, mk_D, mk_N, mk_D]
   have h0 := den_pos r
   have h1 := den_pos s
   obtain ⟨fa, fb⟩ := prod_fits hf hs
   have hp := prod_q r s
   refine Yld.iff rfl (Yld.bindE (rMake_f (big_in _) (big_in _)) (Yld.bindE (rMake_f (big_in _) (big_in _)) ?_))
   rw [mkB_big hf.1 hs.2 (by omega), mkB_big hs.1 hf.2 (by omega), ofR_fits fa, ofR_fits fb, mk_N, mk_D, mk_N, mk_D]
   refine Yld.bindE (rMul_v fa.1 fb.1) (Yld.bindE (rMul_v fa.2 fb.2) ?_)
   rw [← hp.1, ← hp.2]
   refine Yld.bindE (rMake_f (big_in _) (big_in _)) (Yld.some ?_)
   unfold mulR
   by_cases h : fits (r * s)
   ·rw [mkB_big h.1 h.2 (by have := den_pos (r * s); omega), Rat.num_divInt_den]
   ·rw [ofR_not h]
    by_cases h2 : InM (r * s).num
    ·exact mkB_bad2 (iv_out fun h3 => h ⟨h2, h3⟩)
    ·exact mkB_bad1 (iv_out h2)
theorem rDiv_f {x y : Frc} (hx : inF x) (hy : inF y) : r4_Div_S FF x y = some (bi divR x y) := by
 refine Yld.eq ?_
 unfold r4_Div_S
 refine Yld.bindE (rGood_f hy) ?_
 cases hq2 : qF y with
 | none => rw [bi_none2 hq2]; exact Yld.ift rfl (Yld.bindE rBad_f (Yld.some rfl))
 | some s =>
  obtain ⟨hs, rfl⟩ := qF_some hy hq2
  refine Yld.iff rfl ?_
  rw [mk_N, mk_D]
  refine Yld.bindE (rMake_f (big_in _) (big_in _)) (Yld.bindE (rMul_f hx (mkB_in _ _)) (Yld.some ?_))
  cases hq : qF x with
  | none => rw [bi_none1 hq, bi_none1 hq]
  | some r =>
   rw [bi_some hq hq2]
   unfold divR
   by_cases h : s.num = 0
   ·rw [if_pos h, h, mkB_zero (a := 0), bi_none2 qF_bf]
   ·rw [if_neg h, mkB_inv hs h, bi_some hq (qF_mk (inv_fits h hs))]
    unfold mulR
    rw [Rat.div_def]
theorem rOf_f {n : Int} (h : -9223372036854775808 ≤ n ∧ n ≤ 9223372036854775807) : r4_Of_S FF n = some (mk (n : Rat)) := by
 unfold r4_Of_S
 rw [rOf_v h.1 h.2, Option.bind_some, rone_y, Option.bind_some, rMake_f (big_in _) (big_in _), mkB_one (in64_M h)]; rfl
theorem rFrac_f {a b : Int} (ha : -9223372036854775808 ≤ a ∧ a ≤ 9223372036854775807) (hb : -9223372036854775808 ≤ b ∧ b ≤ 9223372036854775807) : r4_Frac_S FF a b = some (mkB (big a) (big b)) := by
 unfold r4_Frac_S
 rw [rOf_v ha.1 ha.2, Option.bind_some, rOf_v hb.1 hb.2, Option.bind_some, rMake_f (big_in _) (big_in _)]; rfl
end Go.Proofs.YtdjnlmmhbeeihaaGreatDoor

namespace Go.Proofs.YtdjnlmmhbeeihaaGreatDoor
open Go Go.Sk
set_option linter.unusedSimpArgs false
set_option linter.unusedVariables false
theorem rRem_v {a b : Int} (ra : InM a) (rb : InM b) (h : b ≠ 0) : r3_Rem_S FF (big a) (big b) = some (big (fr a b)) := by rw [rRem_y FF2 (big_in a) (big_in b), two_big ra rb]; simp only [remO, h, if_false]; rfl
theorem rCmp_v {a b : Int} (ra : InM a) (rb : InM b) : r3_Cmp_S FF (big a) (big b) = some (cmpZ a b) := by rw [rCmp_y FF2 (big_in a) (big_in b), iv_big ra, iv_big rb]
theorem mk_eq (r : Rat) : mk r = ⟨big r.num, big r.den⟩ := by simp only [mk]
def cmpR (r s : Rat) : Int := if r < s then -1 else if s < r then 1 else 0
theorem cross_r (r s : Rat) : cross r.num r.den s.num s.den = cmpR r s := by
 unfold cross cmpZ cmpR
 simp only [Rat.lt_iff]
def cmpF (x y : Frc) : Int := match qF x, qF y with
 | none, none => 0
 | none, some _ => -1
 | some _, none => 1
 | some r, some s => cmpR r s
theorem cmpZ_rng (a b : Int) : -1 ≤ cmpZ a b ∧ cmpZ a b ≤ 1 := by unfold cmpZ; split <;> (try split) <;> omega
theorem sg_mul {o c : Int} (ho : o = 1 ∨ o = -1) (hc : -1 ≤ c ∧ c ≤ 1) : IntKind.i64.wrap (o * c) = o * c := by
 refine wi64' ?_ ?_ <;> rcases ho with rfl | rfl <;> omega
theorem sgn_nn {z : Int} (h : 0 ≤ z) : 0 ≤ sgn z ∧ sgn z ≤ 1 := by unfold sgn; split <;> (try split) <;> omega
theorem dec_sgn {z : Int} : decide (sgn z = 0) = decide (z = 0) := sgn_zero
structure CmpI (c : Int) (p q r s o : Int) : Prop where
 ip : InM p
 iq : InM q
 ir : InM r
 is : InM s
 q0 : 0 < q
 s0 : 0 < s
 o1 : o = 1 ∨ o = -1
 val : o * cross p q r s = c
theorem CmpI.next {c p q r s o : Int} (h : CmpI c p q r s o) (he : p / q = r / s) (h1 : p % q ≠ 0) (h2 : r % s ≠ 0) : CmpI c q (p % q) s (r % s) (-o) := by
 have a0 := Int.emod_nonneg p (show q ≠ 0 by have := h.q0; omega)
 have a1 := Int.emod_lt_of_pos p h.q0
 have b0 := Int.emod_nonneg r (show s ≠ 0 by have := h.s0; omega)
 have b1 := Int.emod_lt_of_pos r h.s0
 have := h.iq.2
 have := h.is.2
 have := MM_pos
 refine ⟨h.iq, ⟨by omega, by omega⟩, h.is, ⟨by omega, by omega⟩, by omega, by omega, by have := h.o1; omega, ?_⟩
 rw [← h.val, cross_next he, Int.neg_mul, Int.mul_neg]
theorem CmpI.start {r s : Rat} (hr : fits r) (hs : fits s) : CmpI (cmpR r s) r.num r.den s.num s.den 1 :=
 ⟨hr.1, hr.2, hs.1, hs.2, den_pos r, den_pos s, .inl rfl, by rw [Int.one_mul, cross_r]⟩
theorem cmpZ_zero {a b : Int} : cmpZ a b = 0 ↔ a = b := by unfold cmpZ; split <;> (try split) <;> omega
def dn (x : Big) : Nat := match iv x with
 | some d => d.toNat
 | none => 0
theorem dn_big {d : Int} (h : InM d) : dn (big d) = d.toNat := by unfold dn; rw [iv_big h]
theorem dn_lt {r : Rat} (h : fits r) : dn (big r.den) < FF := by
 have h1 := h.2.2
 have h2 := FF_MM
 rw [dn_big h.2]
 omega
theorem Cmp_f {x y : Frc} (hx : inF x) (hy : inF y) : q_Cmp_S FF x y = some (cmpF x y) := by
 refine Yld.eq ?_
 unfold q_Cmp_S cmpF
 refine Yld.bindE (Good_f hx) (Yld.bindE (Good_f hy) ?_)
 cases hq : qF x with
 | none =>
  cases hq2 : qF y with
  | none => exact Yld.ift rfl (Yld.some rfl)
  | some s => exact Yld.iff rfl (Yld.ift rfl (Yld.some rfl))
 | some r =>
  cases hq2 : qF y with
  | none => exact Yld.iff rfl (Yld.iff rfl (Yld.ift rfl (Yld.some rfl)))
  | some s =>
   obtain ⟨hr, rfl⟩ := qF_some hx hq
   obtain ⟨hs, rfl⟩ := qF_some hy hq2
   refine Yld.iff rfl (Yld.iff rfl (Yld.iff rfl ?_))
   refine Yld.bind (P := fun z => z = cmpR r s) (Yld.loop (fun st : Frc × Frc × Int => ∃ p q u v, st.1 = ⟨big p, big q⟩ ∧ st.2.1 = ⟨big u, big v⟩ ∧ CmpI (cmpR r s) p q u v st.2.2) (fun st => dn st.1.D) ⟨r.num, r.den, s.num, s.den, mk_eq r, mk_eq s, CmpI.start hr hs⟩ ?_ ?_) (fun z hz => Yld.some hz)
   ·rw [mk_D]; exact dn_lt hr
   ·rintro ⟨_, _, o⟩ ⟨p, q, u, v, rfl, rfl, hI⟩
    dsimp only at hI
    dsimp only [un3]
    have hq0 : q ≠ 0 := by have := hI.q0; omega
    have hv0 : v ≠ 0 := by have := hI.s0; omega
    refine Yld.bindE (Quo_v hI.ip hI.iq hq0) (Yld.bindE (Quo_v hI.ir hI.is hv0) (Yld.bindE (Cmp_v (fq_rng hq0 hI.ip) (fq_rng hv0 hI.ir)) ?_))
    obtain ⟨f1, g1⟩ := fq_fr_pos p hI.q0
    obtain ⟨f2, g2⟩ := fq_fr_pos u hI.s0
    rw [f1, f2]
    refine Yld.ite (fun h => ?_) (fun h => ?_)
    ·have h' : cmpZ (p / q) (u / v) ≠ 0 := of_decide_eq_true h
     refine Yld.some (.inr ⟨_, rfl, ?_⟩)
     rw [sg_mul hI.o1 (cmpZ_rng _ _), ← hI.val, cross_floor hI.q0 hI.s0 h']
    ·have h' : cmpZ (p / q) (u / v) = 0 := by have := of_decide_eq_false h; omega
     have he := cmpZ_zero.1 h'
     refine Yld.bindE (Rem_v hI.ip hI.iq hq0) (Yld.bindE (Rem_v hI.ir hI.is hv0) (Yld.bindE (Sign_v (fr_rng hq0 hI.iq)) (Yld.bindE (Sign_v (fr_rng hv0 hI.is)) ?_)))
     rw [g1, g2, dec_sgn, dec_sgn]
     have a0 := Int.emod_nonneg p hq0
     have b0 := Int.emod_nonneg u hv0
     have a1 := Int.emod_lt_of_pos p hI.q0
     refine Yld.ite (fun h => ?_) (fun h => ?_)
     ·simp only [Bool.or_eq_true, decide_eq_true_eq] at h
      refine Yld.ln (Yld.some (.inr ⟨_, rfl, ?_⟩))
      have c1 := sgn_nn a0
      have c2 := sgn_nn b0
      rw [wi64' (z := sgn (p % q) - sgn (u % v)) (by omega) (by omega), sg_mul hI.o1 (by omega), ← hI.val, cross_end hI.q0 hI.s0 he h]
     ·simp only [Bool.or_eq_false_iff, decide_eq_false_iff_not] at h
      have ho : IntKind.i64.wrap (-o) = -o := by have := hI.o1; exact wi64' (by omega) (by omega)
      have hn := hI.next he h.1 h.2
      refine Yld.some (.inl ⟨_, rfl, ⟨_, _, _, _, rfl, rfl, by dsimp only; rw [ho]; exact hn⟩, ?_⟩)
      dsimp only
      rw [dn_big hI.iq, dn_big hn.iq]
      omega
theorem kept_y (x : Frc) (g : Bool) : r4_kept_S FF x g = some (if g = true then big 0 else bad) := by
 unfold r4_kept_S
 cases g
 ·rw [if_neg (by simp), if_neg (by simp), rBad_y]; rfl
 ·rw [if_pos rfl, if_pos rfl, rOf_v (by decide) (by decide)]; rfl
theorem kept_iv (g : Bool) : iv (if g = true then big 0 else bad) = if g = true then some 0 else none := by
 cases g
 ·rw [if_neg (by simp), if_neg (by simp), iv_bad]
 ·rw [if_pos rfl, if_pos rfl, iv_big zero_InM]
theorem kept_in (g : Bool) : inB (if g = true then big 0 else bad) := by
 cases g
 ·exact bad_in
 ·exact big_in 0
theorem rCmp_f {x y : Frc} (hx : inF x) (hy : inF y) : r4_Cmp_S FF x y = some (cmpF x y) := by
 refine Yld.eq ?_
 unfold r4_Cmp_S cmpF
 refine Yld.bindE (rGood_f hx) (Yld.bindE (rGood_f hy) ?_)
 cases hq : qF x with
 | none =>
  cases hq2 : qF y with
  | none => exact Yld.ift rfl (Yld.bindE (kept_y _ _) (Yld.bindE (kept_y _ _) (Yld.bindE (rCmp_y FF2 (kept_in _) (kept_in _)) (Yld.some (by simp only [kept_iv]; rfl)))))
  | some s => exact Yld.ift rfl (Yld.bindE (kept_y _ _) (Yld.bindE (kept_y _ _) (Yld.bindE (rCmp_y FF2 (kept_in _) (kept_in _)) (Yld.some (by simp only [kept_iv]; rfl)))))
 | some r =>
  cases hq2 : qF y with
  | none => exact Yld.ift rfl (Yld.bindE (kept_y _ _) (Yld.bindE (kept_y _ _) (Yld.bindE (rCmp_y FF2 (kept_in _) (kept_in _)) (Yld.some (by simp only [kept_iv]; rfl)))))
  | some s =>
   obtain ⟨hr, rfl⟩ := qF_some hx hq
   obtain ⟨hs, rfl⟩ := qF_some hy hq2
   refine Yld.iff rfl ?_
   rw [mk_N, mk_D, mk_N, mk_D]
   refine Yld.bind (P := fun z => z = cmpR r s) (Yld.loop (fun st : Int × Arr2Big × Arr2Big => ∃ p q u v, st.2.1 = ⟨big p, big q⟩ ∧ st.2.2 = ⟨big u, big v⟩ ∧ CmpI (cmpR r s) p q u v st.1) (fun st => dn st.2.1.a1) ⟨r.num, r.den, s.num, s.den, rfl, rfl, CmpI.start hr hs⟩ ?_ ?_) (fun z hz => Yld.some hz)
   ·dsimp only; exact dn_lt hr
   ·rintro ⟨o, _, _⟩ ⟨p, q, u, v, rfl, rfl, hI⟩
    dsimp only at hI
    dsimp only [un3]
    have hq0 : q ≠ 0 := by have := hI.q0; omega
    have hv0 : v ≠ 0 := by have := hI.s0; omega
    refine Yld.bindE (rQuo_v hI.ip hI.iq hq0) (Yld.bindE (rQuo_v hI.ir hI.is hv0) (Yld.bindE (rCmp_v (fq_rng hq0 hI.ip) (fq_rng hv0 hI.ir)) ?_))
    obtain ⟨f1, g1⟩ := fq_fr_pos p hI.q0
    obtain ⟨f2, g2⟩ := fq_fr_pos u hI.s0
    rw [f1, f2]
    refine Yld.ite (fun h => ?_) (fun h => ?_)
    ·have h' : cmpZ (p / q) (u / v) ≠ 0 := of_decide_eq_true h
     refine Yld.some (.inr ⟨_, rfl, ?_⟩)
     rw [sg_mul hI.o1 (cmpZ_rng _ _), ← hI.val, cross_floor hI.q0 hI.s0 h']
    ·have h' : cmpZ (p / q) (u / v) = 0 := by have := of_decide_eq_false h; omega
     have he := cmpZ_zero.1 h'
     refine Yld.bindE (rRem_v hI.ip hI.iq hq0) (Yld.bindE (rRem_v hI.ir hI.is hv0) (Yld.bindE (rSign_v (fr_rng hq0 hI.iq)) ?_))
     rw [g1, g2, dec_sgn]
     have a0 := Int.emod_nonneg p hq0
     have b0 := Int.emod_nonneg u hv0
     have a1 := Int.emod_lt_of_pos p hI.q0
     have ru : InM (u % v) := by rw [← g2]; exact fr_rng hv0 hI.is
     have rp : InM (p % q) := by rw [← g1]; exact fr_rng hq0 hI.iq
     have fin : (p % q = 0 ∨ u % v = 0) → IntKind.i64.wrap (o * IntKind.i64.wrap (sgn (p % q) - sgn (u % v))) = cmpR r s := fun h => by
      have c1 := sgn_nn a0
      have c2 := sgn_nn b0
      rw [wi64' (z := sgn (p % q) - sgn (u % v)) (by omega) (by omega), sg_mul hI.o1 (by omega), ← hI.val, cross_end hI.q0 hI.s0 he h]
     by_cases h1 : p % q = 0
     ·rw [decide_eq_true h1]
      exact Yld.g0 rfl (Yld.ift rfl (Yld.bindE (rSign_v rp) (Yld.bindE (rSign_v ru) (Yld.some (.inr ⟨_, rfl, fin (.inl h1)⟩)))))
     ·rw [decide_eq_false h1]
      refine Yld.g1 rfl (Yld.bindE (rSign_v ru) ?_)
      rw [dec_sgn]
      by_cases h2 : u % v = 0
      ·rw [decide_eq_true h2]
       exact Yld.ift rfl (Yld.bindE (rSign_v rp) (Yld.bindE (rSign_v ru) (Yld.some (.inr ⟨_, rfl, fin (.inr h2)⟩))))
      ·rw [decide_eq_false h2]
       have ho : IntKind.i64.wrap (-o) = -o := by have := hI.o1; exact wi64' (by omega) (by omega)
       have hn := hI.next he h1 h2
       refine Yld.iff rfl (Yld.some (.inl ⟨_, rfl, ⟨_, _, _, _, rfl, rfl, by dsimp only; rw [ho]; exact hn⟩, ?_⟩))
       dsimp only
       rw [dn_big hI.iq, dn_big hn.iq]
       omega
end Go.Proofs.YtdjnlmmhbeeihaaGreatDoor

namespace Go.Proofs.YtdjnlmmhbeeihaaGreatDoor
open Go Go.Sk
set_option linter.unusedSimpArgs false
set_option linter.unusedVariables false
theorem neg_neg_f {r : Rat} (h : fits r) : un (fun r => ofR (-r)) (mk (-r)) = mk r := by
 rw [un_some (qF_mk (neg_fits h)), Rat.neg_neg, ofR_fits h]
theorem unN_mk {r : Rat} (h : fits r) : un (fun r => ofR (-r)) (mk r) = mk (-r) := by
 rw [un_some (qF_mk h), ofR_fits (neg_fits h)]
theorem unN_in (x : Frc) : inF (un (fun r => ofR (-r)) x) := un_in (fun r => ofR_in _) x
theorem unN_bf : un (fun r => ofR (-r)) bf = bf := un_none qF_bf
def absF : Frc → Frc := un fun r => if sgn r.num < 0 then mk (-r) else mk r
theorem Abs_f {x : Frc} (hx : inF x) : q_Abs_S FF x = some (absF x) := by
 refine Yld.eq ?_
 unfold q_Abs_S absF
 refine Yld.bindE (Sign_f hx) ?_
 cases hq : qF x with
 | none =>
  rw [un_none hq]
  refine Yld.iff rfl (Yld.bindE (Neg_f hx) (Yld.bindE (Neg_f (unN_in _)) (Yld.some ?_)))
  rw [un_none hq, unN_bf]
 | some r =>
  obtain ⟨hf, rfl⟩ := qF_some hx hq
  rw [un_some hq]
  refine Yld.ite (fun h => ?_) (fun h => ?_)
  ·rw [if_pos (of_decide_eq_true h)]
   exact Yld.bindE (Neg_f hx) (Yld.some (unN_mk hf))
  ·rw [if_neg (of_decide_eq_false h)]
   refine Yld.bindE (Neg_f hx) (Yld.bindE (Neg_f (unN_in _)) (Yld.some ?_))
   rw [unN_mk hf, neg_neg_f hf]
theorem rAbs_f {x : Frc} (hx : inF x) : r4_Abs_S FF x = some (absF x) := by
 refine Yld.eq ?_
 unfold r4_Abs_S absF
 refine Yld.bindE (rGood_f hx) ?_
 cases hq : qF x with
 | none => rw [un_none hq]; exact Yld.ift rfl (Yld.bindE rBad_f (Yld.some rfl))
 | some r =>
  obtain ⟨hf, rfl⟩ := qF_some hx hq
  rw [un_some hq]
  refine Yld.iff rfl ?_
  rw [mk_N, mk_D]
  refine Yld.bindE (rAbs_y FF2 (big_in _)) (Yld.some ?_)
  rw [one_big hf.1, toB_some]
  have e : sgn r.num < 0 ↔ r.num < 0 := by unfold sgn; split <;> (try split) <;> omega
  unfold absZ
  by_cases h : r.num < 0
  ·rw [if_pos h, if_pos (e.2 h), mk_eq, (neg_nd r).1, (neg_nd r).2]
  ·rw [if_neg h, if_neg (fun h' => h (e.1 h')), mk_eq]
noncomputable def halfF : Frc := mkB (big 1) (big 2)
noncomputable def midF (x y : Frc) : Frc := bi mulR (bi addR x y) halfF
theorem Mid_f {x y : Frc} (hx : inF x) (hy : inF y) : q_Mid_S FF x y = some (midF x y) := by
 unfold q_Mid_S
 rw [Add_f hx hy, Option.bind_some, Frac_f (by decide) (by decide), Option.bind_some, Mul_f (bi_in addR_in _ _) (mkB_in _ _)]; rfl
theorem rMid_f {x y : Frc} (hx : inF x) (hy : inF y) : r4_Mid_S FF x y = some (midF x y) := by
 unfold r4_Mid_S
 rw [rAdd_f hx hy, Option.bind_some, rFrac_f (by decide) (by decide), Option.bind_some, rMul_f (bi_in addR_in _ _) (mkB_in _ _)]; rfl
theorem cmpR_neg (r s : Rat) : cmpR (-r) (-s) = cmpR s r := by
 unfold cmpR
 simp only [Rat.neg_lt_neg_iff]
theorem cmpR_sw (r s : Rat) : cmpR r s = -cmpR s r := by
 unfold cmpR
 by_cases h1 : r < s
 ·have h2 : ¬ s < r := by grind
  simp [h1, h2]
 ·by_cases h2 : s < r
  ·simp [h1, h2]
  ·simp [h1, h2]
theorem cmpF_some {x y : Frc} {r s : Rat} (h : qF x = some r) (h2 : qF y = some s) : cmpF x y = cmpR r s := by unfold cmpF; rw [h, h2]
def minF (x y : Frc) : Frc := bi (fun r s => if 0 < cmpR r s then mk s else mk r) x y
def maxF (x y : Frc) : Frc := bi (fun r s => if cmpR r s < 0 then mk s else mk r) x y
theorem Min_f {x y : Frc} (hx : inF x) (hy : inF y) : q_Min_S FF x y = some (minF x y) := by
 refine Yld.eq ?_
 unfold q_Min_S minF
 refine Yld.bindE (Good_f hx) ?_
 cases hq : qF x with
 | none => rw [bi_none1 hq]; exact Yld.g0 rfl (Yld.ift rfl (Yld.bindE Bad_f (Yld.some rfl)))
 | some r =>
  refine Yld.g1 rfl (Yld.bindE (Good_f hy) ?_)
  cases hq2 : qF y with
  | none => rw [bi_none2 hq2]; exact Yld.ift rfl (Yld.bindE Bad_f (Yld.some rfl))
  | some s =>
   obtain ⟨hf, rfl⟩ := qF_some hx hq
   obtain ⟨hs, rfl⟩ := qF_some hy hq2
   rw [bi_some hq hq2]
   refine Yld.iff rfl (Yld.bindE (Cmp_f hx hy) ?_)
   rw [cmpF_some hq hq2]
   refine Yld.ite (fun h => ?_) (fun h => ?_)
   ·rw [if_pos (of_decide_eq_true h)]; exact Yld.some rfl
   ·rw [if_neg (of_decide_eq_false h)]; exact Yld.some rfl
theorem rMin_f {x y : Frc} (hx : inF x) (hy : inF y) : r4_Min_S FF x y = some (minF x y) := by
 refine Yld.eq ?_
 unfold r4_Min_S minF
 refine Yld.bindE (rGood_f hx) ?_
 cases hq : qF x with
 | none => rw [bi_none1 hq]; exact Yld.g0 rfl (Yld.ift rfl (Yld.bindE rBad_f (Yld.some rfl)))
 | some r =>
  refine Yld.g1 rfl (Yld.bindE (rGood_f hy) ?_)
  cases hq2 : qF y with
  | none => rw [bi_none2 hq2]; exact Yld.ift rfl (Yld.bindE rBad_f (Yld.some rfl))
  | some s =>
   obtain ⟨hf, rfl⟩ := qF_some hx hq
   obtain ⟨hs, rfl⟩ := qF_some hy hq2
   rw [bi_some hq hq2]
   refine Yld.iff rfl (Yld.bindE (rCmp_f hx hy) ?_)
   rw [cmpF_some hq hq2]
   refine Yld.ite (fun h => ?_) (fun h => ?_)
   ·rw [if_neg (by have := of_decide_eq_true h; omega)]; exact Yld.some rfl
   ·rw [if_pos (by have := of_decide_eq_false h; omega)]; exact Yld.some rfl
theorem Max_f {x y : Frc} (hx : inF x) (hy : inF y) : q_Max_S FF x y = some (maxF x y) := by
 refine Yld.eq ?_
 unfold q_Max_S maxF
 refine Yld.bindE (Good_f hx) ?_
 cases hq : qF x with
 | none => rw [bi_none1 hq]; exact Yld.g0 rfl (Yld.ift rfl (Yld.bindE Bad_f (Yld.some rfl)))
 | some r =>
  refine Yld.g1 rfl (Yld.bindE (Good_f hy) ?_)
  cases hq2 : qF y with
  | none => rw [bi_none2 hq2]; exact Yld.ift rfl (Yld.bindE Bad_f (Yld.some rfl))
  | some s =>
   obtain ⟨hf, rfl⟩ := qF_some hx hq
   obtain ⟨hs, rfl⟩ := qF_some hy hq2
   rw [bi_some hq hq2]
   refine Yld.iff rfl (Yld.bindE (Cmp_f hx hy) ?_)
   rw [cmpF_some hq hq2]
   refine Yld.ite (fun h => ?_) (fun h => ?_)
   ·rw [if_pos (of_decide_eq_true h)]; exact Yld.some rfl
   ·rw [if_neg (of_decide_eq_false h)]; exact Yld.some rfl
theorem bi_bf {f : Rat → Rat → Frc} {x : Frc} : bi f bf x = bf := bi_none1 qF_bf
theorem bi_bf2 {f : Rat → Rat → Frc} {x : Frc} : bi f x bf = bf := bi_none2 qF_bf
theorem minF_in (x y : Frc) : inF (minF x y) := bi_in (fun r s => by split <;> exact mk_in _) _ _
theorem rMax_f {x y : Frc} (hx : inF x) (hy : inF y) : r4_Max_S FF x y = some (maxF x y) := by
 refine Yld.eq ?_
 unfold r4_Max_S
 refine Yld.bindE (rNeg_f hx) (Yld.bindE (rNeg_f hy) (Yld.bindE (rMin_f (unN_in _) (unN_in _)) (Yld.bindE (rNeg_f (minF_in _ _)) (Yld.some ?_))))
 unfold minF maxF
 cases hq : qF x with
 | none => rw [un_none hq, bi_bf, bi_none1 hq, unN_bf]
 | some r =>
  cases hq2 : qF y with
  | none => rw [un_none hq2, bi_bf2, bi_none2 hq2, unN_bf]
  | some s =>
   obtain ⟨hf, rfl⟩ := qF_some hx hq
   obtain ⟨hs, rfl⟩ := qF_some hy hq2
   rw [bi_some hq hq2, unN_mk hf, unN_mk hs, bi_some (qF_mk (neg_fits hf)) (qF_mk (neg_fits hs)), cmpR_neg, cmpR_sw s r]
   by_cases h : cmpR r s < 0
   ·rw [if_pos (by omega), if_pos h, neg_neg_f hs]
   ·rw [if_neg (by omega), if_neg h, neg_neg_f hf]
noncomputable def sumF : List Frc → Frc → Frc
 | [], a => a
 | x :: l, a => sumF l (bi addR a x)
theorem sumF_take (l : List Frc) (a : Frc) {k : Nat} (h : k < l.length) : sumF (l.take (k + 1)) a = bi addR (sumF (l.take k) a) l[k] := by
 induction l generalizing a k with
 | nil => cases h
 | cons x l ih =>
  cases k with
  | zero => simp [sumF]
  | succ k =>
   simp only [List.take_succ_cons, sumF, List.getElem_cons_succ]
   exact ih _ (by simpa using h)
theorem sumF_in (l : List Frc) {a : Frc} (ha : inF a) : inF (sumF l a) := by
 induction l generalizing a with
 | nil => exact ha
 | cons x l ih => exact ih (bi_in addR_in _ _)
theorem idxF {l : List Frc} {k : Nat} (h : k < l.length) : idx l (k : Int) = l[k] := by
 unfold idx
 simp [List.getD, h]
theorem Sum_f {l : List Frc} (hl : ∀ x ∈ l, inF x) (hn : l.length ≤ 20) : q_Sum_S FF l = some (sumF l (mk ((0 : Int) : Rat))) := by
 refine Yld.eq ?_
 unfold q_Sum_S
 have hF := FF1
 refine Yld.bindE (Of_f (n := 0) (by decide)) (Yld.bind (P := fun z => z = sumF l (mk ((0 : Int) : Rat))) (Yld.rounds l.length (fun k st => st.1 = sumF (l.take k) (mk ((0 : Int) : Rat)) ∧ st.2 = (k : Int)) (by omega) ⟨rfl, rfl⟩ ?_) fun z hz => Yld.some hz)
 rintro k ⟨o, i⟩ hk ⟨h1, h2⟩
 dsimp only at h1 h2
 subst h1 h2
 dsimp only [un2]
 refine Yld.ite (fun h => ?_) (fun h => ?_)
 ·have hk' : k < l.length := by have := of_decide_eq_true h; omega
  refine Yld.idx (by omega) (by omega) (Yld.bindE (Add_f (sumF_in _ (mk_in _)) (by rw [idxF hk']; exact hl _ (List.getElem_mem hk'))) (Yld.some (.inl ⟨_, rfl, ⟨?_, ?_⟩, hk'⟩)))
  ·dsimp only; rw [sumF_take _ _ hk', idxF hk']
  ·dsimp only; rw [wi64' (by omega) (by omega)]; omega
 ·have hk' : k = l.length := by have := of_decide_eq_false h; omega
  refine Yld.some (.inr ⟨_, rfl, ?_⟩)
  rw [hk', List.take_length]
theorem rSum_f {l : List Frc} (hl : ∀ x ∈ l, inF x) (hn : l.length ≤ 20) : r4_Sum_S FF l = some (sumF l (mk ((0 : Int) : Rat))) := by
 refine Yld.eq ?_
 unfold r4_Sum_S
 have hF := FF1
 refine Yld.bindE (rOf_f (n := 0) (by decide)) (Yld.bind (P := fun z => z = sumF l (mk ((0 : Int) : Rat))) (Yld.rounds l.length (fun k st => st.1 = sumF (l.take k) (mk ((0 : Int) : Rat)) ∧ st.2 = (k : Int)) (by omega) ⟨rfl, rfl⟩ ?_) fun z hz => Yld.some hz)
 rintro k ⟨o, i⟩ hk ⟨h1, h2⟩
 dsimp only at h1 h2
 subst h1 h2
 dsimp only [un2]
 refine Yld.ite (fun h => ?_) (fun h => ?_)
 ·have hk' : k < l.length := by have := of_decide_eq_true h; omega
  refine Yld.idx (by omega) (by omega) (Yld.bindE (rAdd_f (sumF_in _ (mk_in _)) (by rw [idxF hk']; exact hl _ (List.getElem_mem hk'))) (Yld.some (.inl ⟨_, rfl, ⟨?_, ?_⟩, hk'⟩)))
  ·dsimp only; rw [sumF_take _ _ hk', idxF hk']
  ·dsimp only; rw [wi64' (by omega) (by omega)]; omega
 ·have hk' : k = l.length := by have := of_decide_eq_false h; omega
  refine Yld.some (.inr ⟨_, rfl, ?_⟩)
  rw [hk', List.take_length]
end Go.Proofs.YtdjnlmmhbeeihaaGreatDoor

namespace Go.Proofs.YtdjnlmmhbeeihaaGreatDoor
open Go Go.Sk
set_option maxRecDepth 100000
theorem sanity_y : l4_sanity_S FF = some true := by
 unfold l4_sanity_S l4_text_S q_Text_S w_Text_S
 simp only [itoa_S_K]
 decide +kernel
end Go.Proofs.YtdjnlmmhbeeihaaGreatDoor

namespace Go.Proofs.YtdjnlmmhbeeihaaGreatDoor
open Go Go.Sk
set_option linter.unusedSimpArgs false
set_option linter.unusedVariables false
theorem computes_y {x y : Frc} {l : List Frc} (hx : inF x) (hy : inF y) (hl : ∀ z ∈ l, inF z) : l4_RatioComputesAsSpecified_S FF x y l = some true := by
 refine Yld.eq ?_
 unfold l4_RatioComputesAsSpecified_S
 refine Yld.ite (fun h => Yld.bindE sanity_y (Yld.some rfl)) (fun h => ?_)
 have hn : l.length ≤ 20 := by have := of_decide_eq_false h; omega
 refine Yld.bindE (Add_f hx hy) (Yld.bindE (rAdd_f hx hy) ?_)
 refine Yld.g1 (by simp) (Yld.bindE (Sub_f hx hy) (Yld.g1 (by simp) (Yld.bindE (rSub_f hx hy) ?_)))
 refine Yld.g1 (by simp) (Yld.bindE (Mul_f hx hy) (Yld.g1 (by simp) (Yld.bindE (rMul_f hx hy) ?_)))
 refine Yld.g1 (by simp) (Yld.bindE (Div_f hx hy) (Yld.g1 (by simp) (Yld.bindE (rDiv_f hx hy) ?_)))
 refine Yld.g1 (by simp) (Yld.bindE (Neg_f hx) (Yld.g1 (by simp) (Yld.bindE (rNeg_f hx) ?_)))
 refine Yld.g1 (by simp) (Yld.bindE (Abs_f hx) (Yld.g1 (by simp) (Yld.bindE (rAbs_f hx) ?_)))
 refine Yld.bindE sanity_y ?_
 refine Yld.g1 (by simp) (Yld.bindE (Sum_f hl hn) (Yld.g1 (by simp) (Yld.bindE (rSum_f hl hn) ?_)))
 refine Yld.g1 (by simp) (Yld.bindE (Mid_f hx hy) (Yld.g1 (by simp) (Yld.bindE (rMid_f hx hy) ?_)))
 refine Yld.g1 (by simp) (Yld.bindE (Min_f hx hy) (Yld.g1 (by simp) (Yld.bindE (rMin_f hx hy) ?_)))
 exact Yld.g1 (by simp) (Yld.bindE (Max_f hx hy) (Yld.g1 (by simp) (Yld.bindE (rMax_f hx hy) (Yld.some (by simp)))))
end Go.Proofs.YtdjnlmmhbeeihaaGreatDoor

namespace Go.Proofs.YtdjnlmmhbeeihaaGreatDoor
open Go Go.Sk
end Go.Proofs.YtdjnlmmhbeeihaaGreatDoor

namespace Go.Sk
open Go
theorem int_mem_rel {h : PH} {cs : List CP} {L : List Value} {k : IntKind} {z : Int} (hr : cellsRel h cs L) (hm : CP.int k z ∈ cs) : inR k z := by
 obtain ⟨i, hi, he⟩ := List.getElem_of_mem hm
 obtain ⟨u, _, hu⟩ := All2.get hr i (.int k z) (by rw [List.getElem?_eq_getElem hi, he])
 exact hu.2
end Go.Sk
namespace Go.Proofs.YtdjnlmmhbeeihaaGreatDoor
open Go Go.Sk
theorem inD_of {w : A16} (H : ∀ z ∈ w.l, inR .u32 z) : inD 4294967296 w.l := fun i => by
 by_cases hi : i < w.l.length
 ·have h1 := H w.l[i] (List.getElem_mem hi)
  have e : dg w.l i = w.l[i] := by simp [dg, List.getD, List.getElem?_eq_getElem hi]
  rw [e]
  have h2 : 0 ≤ w.l[i] ∧ w.l[i] ≤ 4294967295 := by simpa [inR, IntKind.min, IntKind.max, IntKind.signed, IntKind.bits] using h1
  omega
 ·rw [dg_ge (by omega)]; decide
theorem inF_ints {x : Frc} (H : ∀ z, CP.int .u32 z ∈ eFrc x → inR .u32 z) : inF x := by
 refine ⟨inD_of fun z hz => H z ?_, inD_of fun z hz => H z ?_⟩
 ·unfold eFrc eBig
  exact List.mem_append_left _ (List.mem_cons_of_mem _ (List.mem_cons_of_mem _ (List.mem_map_of_mem hz)))
 ·unfold eFrc eBig
  exact List.mem_append_right _ (List.mem_cons_of_mem _ (List.mem_cons_of_mem _ (List.mem_map_of_mem hz)))
theorem inF_of {x : Frc} {h : PH} {v : Value} (hx : (BV.agg (eFrc x)).rel h (fun _ => .bool false) v) : inF x := by
 obtain ⟨cs, _, hr⟩ := hx
 exact inF_ints fun z hz => int_mem_rel hr hz
theorem inFs_of {l : List Frc} {h : PH} {v : Value} (hx : (BV.one (.sl 36 (l.map eFrc))).rel h (fun _ => .bool false) v) : ∀ z ∈ l, inF z := fun z hz => inF_ints fun y hy => by
 have hv : (CP.sl 36 (l.map eFrc)).rel h v := hx
 have hm : CP.int .u32 y ∈ (l.map eFrc).flatten := List.mem_flatten.2 ⟨_, List.mem_map_of_mem hz, hy⟩
 obtain ⟨_, _, hv⟩ := hv
 rcases hv with ⟨rfl, hn⟩ | ⟨b, o, c, rfl, h1, h2, h3⟩
 ·have : l = [] := by simpa using hn
  subst this
  cases hz
 ·obtain ⟨j, hj, he⟩ := List.getElem_of_mem hm
  obtain ⟨u, _, hu⟩ := h3 j (.int .u32 y) (by rw [List.getElem?_eq_getElem hj, he])
  exact hu.2
end Go.Proofs.YtdjnlmmhbeeihaaGreatDoor

namespace Go.Proofs.YtdjnlmmhbeeihaaGreatDoor
open Go Go.Sk
theorem computes_law {mx : Int} (x : Frc) (y : Frc) (l : List Frc) (hx : inF x) (hy : inF y) (hl : ∀ z ∈ l, inF z) : Meets Tryz.prog (tabs mx) 10 [] [.agg (eFrc x), .agg (eFrc y), .one (.sl 36 (l.map eFrc))] (Is [] (.b (.one (.bool true)))) :=
 l4_RatioComputesAsSpecified_spec (computes_y hx hy hl)
end Go.Proofs.YtdjnlmmhbeeihaaGreatDoor

