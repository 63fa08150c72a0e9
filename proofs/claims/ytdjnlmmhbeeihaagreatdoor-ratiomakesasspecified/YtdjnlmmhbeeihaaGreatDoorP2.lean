/- the plain law -/
import Derived.Test.YtdjnlmmhbeeihaaGreatDoorP1
namespace Go.Proofs.YtdjnlmmhbeeihaaGreatDoor
open Go Go.Sk
set_option linter.unusedSimpArgs false
set_option linter.unusedVariables false
def bf : Frc := ⟨bad, big 1⟩
def fits (r : Rat) : Prop := InM r.num ∧ InM r.den
noncomputable instance (r : Rat) : Decidable (fits r) := Classical.propDecidable _
def mk (r : Rat) : Frc := ⟨big r.num, big r.den⟩
noncomputable def ofR (r : Rat) : Frc := if fits r then mk r else bf
abbrev inF (x : Frc) : Prop := inB x.N ∧ inB x.D
def qF (x : Frc) : Option Rat := match iv x.N, iv x.D with
  | some n, some d => if 0 < d ∧ Nat.gcd n.natAbs d.natAbs = 1 then some (Rat.divInt n d) else none
  | _, _ => none
noncomputable def mkB (n d : Big) : Frc := match iv n, iv d with
  | some a, some b => if b = 0 then bf else ofR (Rat.divInt a b)
  | _, _ => bf
theorem in_mk {N D : Big} (h1 : inB N) (h2 : inB D) : inF ⟨N, D⟩ := And.intro h1 h2
theorem bf_in : inF bf := in_mk bad_in (big_in 1)
theorem mk_in (r : Rat) : inF (mk r) := in_mk (big_in _) (big_in _)
theorem ofR_in (r : Rat) : inF (ofR r) := by unfold ofR; split; exact mk_in r; exact bf_in
theorem mkB_in (n d : Big) : inF (mkB n d) := by
  unfold mkB; split
  · split; exact bf_in; exact ofR_in _
  · exact bf_in
theorem ofR_fits {r : Rat} (h : fits r) : ofR r = mk r := by unfold ofR; rw [if_pos h]
theorem ofR_not {r : Rat} (h : ¬ fits r) : ofR r = bf := by unfold ofR; rw [if_neg h]
theorem qF_none {N D : Big} (h : iv N = none) : qF ⟨N, D⟩ = none := by
  unfold qF
  dsimp only
  rw [h]
theorem qF_bf : qF bf = none := by
  unfold bf
  exact qF_none iv_bad
theorem qF_of {N D : Big} {n d : Int} (hn : iv N = some n) (hd : iv D = some d) (h0 : 0 < d) (hc : Nat.gcd n.natAbs d.natAbs = 1) : qF ⟨N, D⟩ = some (Rat.divInt n d) := by
  unfold qF
  dsimp only
  rw [hn, hd]
  dsimp only
  rw [if_pos ⟨h0, hc⟩]
theorem qF_mk {r : Rat} (h : fits r) : qF (mk r) = some r := by
  have hc : Nat.gcd r.num.natAbs ((r.den : Int)).natAbs = 1 := by rw [Int.natAbs_natCast]; exact r.reduced
  have := qF_of (iv_big h.1) (iv_big h.2) (den_pos r) hc
  rw [Rat.num_divInt_den] at this
  exact this
theorem qF_ofR (r : Rat) : qF (ofR r) = if fits r then some r else none := by
  unfold ofR
  split
  · exact qF_mk (by assumption)
  · exact qF_bf
theorem qF_some {x : Frc} {r : Rat} (hx : inF x) (h : qF x = some r) : fits r ∧ x = mk r := by
  unfold qF at h
  split at h
  · next n d hn hd =>
    obtain ⟨_, en, rn⟩ := iv_some hx.1 hn
    obtain ⟨_, ed, rd⟩ := iv_some hx.2 hd
    split at h
    · next hc =>
      have e := divInt_cop hc.1 hc.2
      cases h
      refine ⟨⟨by rw [e.1]; exact rn, by rw [e.2]; exact rd⟩, ?_⟩
      unfold mk
      rw [e.1, e.2, ← en, ← ed]
    · cases h
  · cases h
theorem fq_mul {q g : Int} (h : g ≠ 0) : fq (q * g) g = q := by
  refine (fq_unique h (r := 0) (by rw [Int.mul_comm]; omega) ?_ (.inl rfl)).1.symm
  have := absZ_pos h
  simpa [absZ] using this
theorem red_fits {n d : Int} (hd : d ≠ 0) (rn : InM n) (rd : InM d) : fits (Rat.divInt n d) := by
  obtain ⟨g0, e1, e2⟩ := red (n := n) hd
  have key : ∀ {a g m : Int}, g ≠ 0 → a * g = m → InM m → InM a := fun {a g m} hg e hm => by
    have h1 : a.natAbs * g.natAbs = m.natAbs := by rw [← Int.natAbs_mul, e]
    have h2 : a.natAbs * 1 ≤ a.natAbs * g.natAbs := Nat.mul_le_mul_left _ (by omega)
    constructor <;> have := hm.1 <;> have := hm.2 <;> omega
  exact ⟨key g0 e1 rn, key g0 e2 rd⟩
theorem goodz_y {x : Big} : ratio_good_S FF x = some (goodB x) := by
  refine Yld.eq ?_
  unfold ratio_good_S goodB
  cases h : x.Bad with
  | true => exact Yld.g0 rfl (Yld.some (by simp))
  | false => exact Yld.g1 rfl (Yld.bindE (Valid_y FF x) (Yld.some (by simp [h])))
theorem one_y : ratio_one_S FF = some (big 1) := by
  unfold ratio_one_S
  rw [Of_v (by decide) (by decide)]; rfl
theorem Bad_f : ratio_Bad_S FF = some bf := by
  unfold ratio_Bad_S
  rw [Bad_y, Option.bind_some, one_y]; rfl
theorem sgn_pos {d : Int} : decide (0 < sgn d) = decide (0 < d) := by rw [decide_eq_decide]; unfold sgn; split <;> (try split) <;> omega
theorem sgn_neg {d : Int} : decide (sgn d < 0) = decide (d < 0) := by rw [decide_eq_decide]; unfold sgn; split <;> (try split) <;> omega
theorem sgn_zero {d : Int} : decide (sgn d = 0) = decide (d = 0) := by rw [decide_eq_decide]; unfold sgn; split <;> (try split) <;> omega
theorem Good_f {x : Frc} (hx : inF x) : ratio_Good_S FF x = some (qF x).isSome := by
  refine Yld.eq ?_
  unfold ratio_Good_S qF
  refine Yld.bindE goodz_y ?_
  cases hn : iv x.N with
  | none =>
    rw [iv_none hn]
    exact Yld.g0 rfl (Yld.g0 rfl (Yld.g0 rfl (Yld.g0 rfl (Yld.some rfl))))
  | some n =>
    obtain ⟨gn, en, rn⟩ := iv_some hx.1 hn
    rw [gn]
    refine Yld.g1 rfl (Yld.bindE goodz_y ?_)
    cases hd : iv x.D with
    | none =>
      rw [iv_none hd]
      exact Yld.g0 rfl (Yld.g0 rfl (Yld.g0 rfl (Yld.some rfl)))
    | some d =>
      obtain ⟨gd, ed, rd⟩ := iv_some hx.2 hd
      rw [gd, en, ed]
      refine Yld.g1 rfl (Yld.bindE (Sign_v rd) ?_)
      rw [sgn_pos]
      by_cases h0 : 0 < d
      · rw [decide_eq_true h0]
        refine Yld.g1 rfl (Yld.bindE (Gcd_v rn rd) (Yld.g1 rfl (Yld.bindE one_y (Yld.some ?_))))
        have hg : InM (Nat.gcd n.natAbs d.natAbs : Nat) := by
          have := Nat.gcd_le_right n.natAbs (show 0 < d.natAbs by omega)
          have := rd.1; have := rd.2
          constructor <;> omega
        have e : (big (Nat.gcd n.natAbs d.natAbs : Nat) = big 1) = (Nat.gcd n.natAbs d.natAbs = 1) := by
          rw [eq_iff_iff, big_inj hg one_InM]; omega
        simp only [e]
        by_cases h1 : Nat.gcd n.natAbs d.natAbs = 1
        · simp [h1, h0]
        · simp [h1]
      · rw [decide_eq_false h0]
        refine Yld.g0 rfl (Yld.g0 rfl (Yld.some ?_))
        simp [h0]
theorem Make_f {n d : Big} (hn : inB n) (hd : inB d) : ratio_Make_S FF n d = some (mkB n d) := by
  refine Yld.eq ?_
  unfold ratio_Make_S mkB
  refine Yld.bindE goodz_y ?_
  cases ha : iv n with
  | none =>
    rw [iv_none ha]
    exact Yld.g0 rfl (Yld.g0 rfl (Yld.ift rfl (Yld.bindE Bad_f (Yld.some rfl))))
  | some a =>
    obtain ⟨ga, rfl, ra⟩ := iv_some hn ha
    rw [ga]
    refine Yld.g1 rfl (Yld.bindE goodz_y ?_)
    cases hb : iv d with
    | none =>
      rw [iv_none hb]
      exact Yld.g0 rfl (Yld.ift rfl (Yld.bindE Bad_f (Yld.some rfl)))
    | some b =>
      obtain ⟨gb, rfl, rb⟩ := iv_some hd hb
      rw [gb]
      refine Yld.g1 rfl (Yld.bindE (Sign_v rb) ?_)
      rw [sgn_zero]
      by_cases h0 : b = 0
      · rw [decide_eq_true h0]
        exact Yld.ift rfl (Yld.bindE Bad_f (Yld.some (by simp [h0])))
      · rw [decide_eq_false h0]
        have hg : InM (Nat.gcd a.natAbs b.natAbs : Nat) := by
          have := Nat.gcd_le_right a.natAbs (show 0 < b.natAbs by omega)
          have := rb.1; have := rb.2
          constructor <;> omega
        have hgs : InM (gcdS a b) := by unfold gcdS; split <;> (have := hg.1; have := hg.2; constructor <;> omega)
        obtain ⟨g0, e1, e2⟩ := red (n := a) h0
        refine Yld.iff rfl (Yld.bindE (Gcd_v ra rb) (Yld.bind (P := fun g => g = big (gcdS a b)) (Yld.bindE (Sign_v rb) ?_) ?_))
        · rw [sgn_neg]
          unfold gcdS
          refine Yld.ite (fun h => ?_) (fun h => ?_)
          · rw [if_pos (of_decide_eq_true h), Neg_y FF1 (big_in _), one_big hg]; exact Yld.some rfl
          · rw [if_neg (of_decide_eq_false h)]; exact Yld.some rfl
        · rintro g rfl
          refine Yld.bindE (Quo_v ra hgs g0) (Yld.bindE (Quo_v rb hgs g0) (Yld.some ?_))
          dsimp only
          rw [if_neg h0, ofR_fits (red_fits h0 ra rb)]
          unfold mk
          have f1 : fq a (gcdS a b) = (Rat.divInt a b).num := by
            have := fq_mul (q := (Rat.divInt a b).num) g0
            rwa [e1] at this
          have f2 : fq b (gcdS a b) = ((Rat.divInt a b).den : Int) := by
            have := fq_mul (q := ((Rat.divInt a b).den : Int)) g0
            rwa [e2] at this
          rw [f1, f2]
end Go.Proofs.YtdjnlmmhbeeihaaGreatDoor

namespace Go.Proofs.YtdjnlmmhbeeihaaGreatDoor
open Go Go.Sk
set_option linter.unusedSimpArgs false
set_option linter.unusedVariables false
def un (f : Rat → Frc) (x : Frc) : Frc := match qF x with
  | some r => f r
  | none => bf
def bi (f : Rat → Rat → Frc) (x y : Frc) : Frc := match qF x, qF y with
  | some r, some s => f r s
  | _, _ => bf
theorem mk_N (r : Rat) : (mk r).N = big r.num := by simp only [mk]
theorem mk_D (r : Rat) : (mk r).D = big r.den := by simp only [mk]
theorem mkB_big {a b : Int} (ra : InM a) (rb : InM b) (h : b ≠ 0) : mkB (big a) (big b) = ofR (Rat.divInt a b) := by
  unfold mkB
  rw [iv_big ra, iv_big rb]
  dsimp only
  rw [if_neg h]
def qd (r s : Rat) : Int := ((r.den / Nat.gcd r.den s.den : Nat) : Int)
abbrev plus := fun a b : Int => some (a + b)
noncomputable def addR (r s : Rat) : Frc := mkB (two plus (big (r.num * qd s r)) (big (s.num * qd r s))) (big (qd r s * s.den))
noncomputable def subR (r s : Rat) : Frc := addR r (-s)
noncomputable def mulR (r s : Rat) : Frc := ofR (r * s)
noncomputable def divR (r s : Rat) : Frc := if s.num = 0 then bf else ofR (r / s)
def unB (f : Rat → Int) (x : Frc) : Big := match qF x with
  | some r => big (f r)
  | none => bad
theorem Whole_f {n : Big} (hn : inB n) : ratio_Whole_S FF n = some (mkB n (big 1)) := by
  unfold ratio_Whole_S
  rw [one_y, Option.bind_some, Make_f hn (big_in 1)]; rfl
theorem int_nd (z : Int) : ((z : Rat)).num = z ∧ ((z : Rat)).den = 1 := ⟨rfl, rfl⟩
theorem int_fits {z : Int} (h : InM z) : fits (z : Rat) := by
  refine ⟨by rw [(int_nd z).1]; exact h, ?_⟩
  rw [(int_nd z).2]
  exact one_InM
theorem divInt_one (z : Int) : Rat.divInt z 1 = (z : Rat) := by
  rw [divInt_q]
  have : ((1 : Int) : Rat) = 1 := rfl
  rw [this, Rat.div_def]
  grind
theorem mkB_one {z : Int} (h : InM z) : mkB (big z) (big 1) = mk (z : Rat) := by
  rw [mkB_big h one_InM (by decide), divInt_one, ofR_fits (int_fits h)]
theorem in64_M {n : Int} (h : -9223372036854775808 ≤ n ∧ n ≤ 9223372036854775807) : InM n := by
  have := MM_big
  constructor <;> omega
theorem Of_f {n : Int} (h : -9223372036854775808 ≤ n ∧ n ≤ 9223372036854775807) : ratio_Of_S FF n = some (mk (n : Rat)) := by
  unfold ratio_Of_S
  rw [Of_v h.1 h.2, Option.bind_some, Whole_f (big_in _), mkB_one (in64_M h)]; rfl
theorem Frac_f {a b : Int} (ha : -9223372036854775808 ≤ a ∧ a ≤ 9223372036854775807) (hb : -9223372036854775808 ≤ b ∧ b ≤ 9223372036854775807) : ratio_Frac_S FF a b = some (mkB (big a) (big b)) := by
  unfold ratio_Frac_S
  rw [Of_v ha.1 ha.2, Option.bind_some, Of_v hb.1 hb.2, Option.bind_some, Make_f (big_in _) (big_in _)]; rfl
end Go.Proofs.YtdjnlmmhbeeihaaGreatDoor

namespace Go.Proofs.YtdjnlmmhbeeihaaGreatDoor
open Go Go.Sk
set_option linter.unusedSimpArgs false
set_option linter.unusedVariables false
theorem rSign_v {a : Int} (ra : InM a) : skewbackref03_Sign_S FF (big a) = some (sgn a) := by rw [rSign_y FF2 (big_in a), iv_big ra]
theorem rMul_v {a b : Int} (ra : InM a) (rb : InM b) : skewbackref03_Mul_S FF (big a) (big b) = some (big (a * b)) := by rw [rMul_y FF2 (big_in a) (big_in b), two_big ra rb]; rfl
theorem rQuo_v {a b : Int} (ra : InM a) (rb : InM b) (h : b ≠ 0) : skewbackref03_Quo_S FF (big a) (big b) = some (big (fq a b)) := by rw [rQuo_y FF2 (big_in a) (big_in b), two_big ra rb]; simp only [quoO, h, if_false]; rfl
theorem rOf_v {n : Int} (h0 : -9223372036854775808 ≤ n) (h1 : n ≤ 9223372036854775807) : skewbackref03_Of_S FF n = some (big n) := rOf_y FF2 h0 h1
theorem rone_y : skewbackref04_one_S FF = some (big 1) := by
  unfold skewbackref04_one_S
  rw [rOf_v (by decide) (by decide)]; rfl
theorem rBad_f : skewbackref04_Bad_S FF = some bf := by
  unfold skewbackref04_Bad_S
  rw [rBad_y, Option.bind_some, rone_y]; rfl
theorem rGood_f {x : Frc} (hx : inF x) : skewbackref04_Good_S FF x = some (qF x).isSome := by
  refine Yld.eq ?_
  unfold skewbackref04_Good_S qF
  refine Yld.bindE (rGood_y FF2 hx.1) ?_
  cases hn : iv x.N with
  | none =>
    rw [iv_none hn]
    exact Yld.g0 rfl (Yld.ift rfl (Yld.some rfl))
  | some n =>
    obtain ⟨gn, en, rn⟩ := iv_some hx.1 hn
    rw [gn]
    refine Yld.g1 rfl (Yld.bindE (rGood_y FF2 hx.2) ?_)
    cases hd : iv x.D with
    | none =>
      rw [iv_none hd]
      exact Yld.ift rfl (Yld.some rfl)
    | some d =>
      obtain ⟨gd, ed, rd⟩ := iv_some hx.2 hd
      rw [gd, en, ed]
      refine Yld.iff rfl (Yld.bindE (rSign_v rd) ?_)
      rw [sgn_pos]
      by_cases h0 : 0 < d
      · rw [decide_eq_true h0]
        refine Yld.g1 rfl (Yld.bindE (rGcd_v rn rd) (Yld.g1 rfl (Yld.bindE rone_y (Yld.some ?_))))
        have hg : InM (Nat.gcd n.natAbs d.natAbs : Nat) := by
          have := Nat.gcd_le_right n.natAbs (show 0 < d.natAbs by omega)
          have := rd.1; have := rd.2
          constructor <;> omega
        have e : (big (Nat.gcd n.natAbs d.natAbs : Nat) = big 1) = (Nat.gcd n.natAbs d.natAbs = 1) := by
          rw [eq_iff_iff, big_inj hg one_InM]; omega
        simp only [e]
        by_cases h1 : Nat.gcd n.natAbs d.natAbs = 1
        · simp [h1, h0]
        · simp [h1]
      · rw [decide_eq_false h0]
        refine Yld.g0 rfl (Yld.g0 rfl (Yld.some ?_))
        simp [h0]
theorem rMake_f {n d : Big} (hn : inB n) (hd : inB d) : skewbackref04_Make_S FF n d = some (mkB n d) := by
  refine Yld.eq ?_
  unfold skewbackref04_Make_S mkB
  refine Yld.bindE (rGood_y FF2 hn) ?_
  cases ha : iv n with
  | none =>
    rw [iv_none ha]
    exact Yld.g0 rfl (Yld.g0 rfl (Yld.ift rfl (Yld.bindE rBad_f (Yld.some rfl))))
  | some a =>
    obtain ⟨ga, rfl, ra⟩ := iv_some hn ha
    rw [ga]
    refine Yld.g1 rfl (Yld.bindE (rGood_y FF2 hd) ?_)
    cases hb : iv d with
    | none =>
      rw [iv_none hb]
      exact Yld.g0 rfl (Yld.ift rfl (Yld.bindE rBad_f (Yld.some rfl)))
    | some b =>
      obtain ⟨gb, rfl, rb⟩ := iv_some hd hb
      rw [gb]
      refine Yld.g1 rfl (Yld.bindE (rSign_v rb) ?_)
      rw [sgn_zero]
      by_cases h0 : b = 0
      · rw [decide_eq_true h0]
        exact Yld.ift rfl (Yld.bindE rBad_f (Yld.some (by simp [h0])))
      · rw [decide_eq_false h0]
        have hg : InM (Nat.gcd a.natAbs b.natAbs : Nat) := by
          have := Nat.gcd_le_right a.natAbs (show 0 < b.natAbs by omega)
          have := rb.1; have := rb.2
          constructor <;> omega
        have hgs : InM (gcdS a b) := by unfold gcdS; split <;> (have := hg.1; have := hg.2; constructor <;> omega)
        obtain ⟨g0, e1, e2⟩ := red (n := a) h0
        refine Yld.iff rfl (Yld.bindE (rGcd_v ra rb) (Yld.bind (P := fun g => g = big (gcdS a b)) (Yld.bindE (rSign_v rb) ?_) ?_))
        · rw [sgn_neg]
          unfold gcdS
          refine Yld.ite (fun h => ?_) (fun h => ?_)
          · rw [if_pos (of_decide_eq_true h), rNeg_y FF2 (big_in _), one_big hg]; exact Yld.some rfl
          · rw [if_neg (of_decide_eq_false h)]; exact Yld.some rfl
        · rintro g rfl
          refine Yld.bindE (rQuo_v ra hgs g0) (Yld.bindE (rQuo_v rb hgs g0) (Yld.some ?_))
          dsimp only
          rw [if_neg h0, ofR_fits (red_fits h0 ra rb)]
          unfold mk
          have f1 : fq a (gcdS a b) = (Rat.divInt a b).num := by
            have := fq_mul (q := (Rat.divInt a b).num) g0
            rwa [e1] at this
          have f2 : fq b (gcdS a b) = ((Rat.divInt a b).den : Int) := by
            have := fq_mul (q := ((Rat.divInt a b).den : Int)) g0
            rwa [e2] at this
          rw [f1, f2]
theorem rWhole_f {n : Big} (hn : inB n) : skewbackref04_Whole_S FF n = some (mkB n (big 1)) := by
  unfold skewbackref04_Whole_S
  rw [rone_y, Option.bind_some, rMake_f hn (big_in 1)]; rfl
theorem rOf_f {n : Int} (h : -9223372036854775808 ≤ n ∧ n ≤ 9223372036854775807) : skewbackref04_Of_S FF n = some (mk (n : Rat)) := by
  unfold skewbackref04_Of_S
  rw [rOf_v h.1 h.2, Option.bind_some, rone_y, Option.bind_some, rMake_f (big_in _) (big_in _), mkB_one (in64_M h)]; rfl
theorem rFrac_f {a b : Int} (ha : -9223372036854775808 ≤ a ∧ a ≤ 9223372036854775807) (hb : -9223372036854775808 ≤ b ∧ b ≤ 9223372036854775807) : skewbackref04_Frac_S FF a b = some (mkB (big a) (big b)) := by
  unfold skewbackref04_Frac_S
  rw [rOf_v ha.1 ha.2, Option.bind_some, rOf_v hb.1 hb.2, Option.bind_some, rMake_f (big_in _) (big_in _)]; rfl
end Go.Proofs.YtdjnlmmhbeeihaaGreatDoor

namespace Go.Proofs.YtdjnlmmhbeeihaaGreatDoor
open Go Go.Sk
set_option linter.unusedSimpArgs false
set_option linter.unusedVariables false
def vF (x : Frc) : Bool := decide (x = bf) || (qF x).isSome
theorem Valid_f {x : Frc} (hx : inF x) : ratio_Valid_S FF x = some (vF x) := by
  refine Yld.eq ?_
  unfold ratio_Valid_S vF
  refine Yld.bindE Bad_f ?_
  cases h : decide (x = bf) with
  | true => exact Yld.g0 rfl (Yld.some rfl)
  | false => exact Yld.g1 rfl (Yld.bindE (Good_f hx) (Yld.some rfl))
theorem rValid_f {x : Frc} (hx : inF x) : skewbackref04_Valid_S FF x = some (vF x) := by
  refine Yld.eq ?_
  unfold skewbackref04_Valid_S vF
  refine Yld.bindE (rGood_f hx) ?_
  cases h : (qF x).isSome with
  | true => exact Yld.g0 rfl (Yld.some (by simp))
  | false => exact Yld.g1 rfl (Yld.bindE rBad_f (Yld.some (by simp)))
theorem vF_mkB (n d : Big) : vF (mkB n d) = true := by
  unfold vF
  cases h : qF (mkB n d) with
  | some r => simp
  | none =>
    have : mkB n d = bf := by
      unfold mkB at h ⊢
      cases h1 : iv n with
      | none => rfl
      | some a =>
        cases h2 : iv d with
        | none => rfl
        | some b =>
          rw [h1, h2] at h
          dsimp only at h ⊢
          by_cases hb : b = 0
          · rw [if_pos hb]
          · rw [if_neg hb] at h ⊢
            rw [qF_ofR] at h
            by_cases hf : fits (Rat.divInt a b)
            · rw [if_pos hf] at h; cases h
            · exact ofR_not hf
    simp [this]
end Go.Proofs.YtdjnlmmhbeeihaaGreatDoor

namespace Go.Proofs.YtdjnlmmhbeeihaaGreatDoor
open Go Go.Sk
set_option maxRecDepth 100000
theorem sanity_y : skewbacklaw04_sanity_S FF = some true := by
  unfold skewbacklaw04_sanity_S skewbacklaw04_text_S ratio_Text_S whole_Text_S
  simp only [itoa_S_K]
  decide +kernel
end Go.Proofs.YtdjnlmmhbeeihaaGreatDoor

namespace Go.Proofs.YtdjnlmmhbeeihaaGreatDoor
open Go Go.Sk
set_option linter.unusedSimpArgs false
set_option linter.unusedVariables false
theorem goodB_big' (z : Int) : goodB (big z) = decide (InM z) := by
  by_cases h : InM z
  · rw [goodB_big h, decide_eq_true h]
  · rw [big_out h, goodB_bad, decide_eq_false h]
theorem three_in : InM 3 := by have := MM_big; constructor <;> omega
theorem makes_y {n d : Big} {x : Frc} {a b : Int} (hn : inB n) (hd : inB d) (hx : inF x) (ha : -9223372036854775808 ≤ a ∧ a ≤ 9223372036854775807) (hb : -9223372036854775808 ≤ b ∧ b ≤ 9223372036854775807) :
    skewbacklaw04_RatioMakesAsSpecified_S FF n d x a b = some true := by
  refine Yld.eq ?_
  unfold skewbacklaw04_RatioMakesAsSpecified_S
  refine Yld.bindE (Make_f hn hd) (Yld.bindE (rOf_v (by decide) (by decide)) (Yld.bind (P := fun o => o = .inl ()) ?_ ?_))
  · refine Yld.bindE (rGood_f (mkB_in n d)) (Yld.ite (fun h => ?_) (fun h => Yld.some rfl))
    cases hq : qF (mkB n d) with
    | none => rw [hq] at h; cases h
    | some r =>
      obtain ⟨hf, he⟩ := qF_some (mkB_in n d) hq
      rw [he, mk_N, mk_D]
      refine Yld.bindE (rMul_v hf.1 three_in) (Yld.bindE (rMul_v hf.2 three_in) (Yld.bindE (rGood_y FF2 (big_in _)) ?_))
      rw [goodB_big']
      by_cases h1 : InM (r.num * 3)
      · rw [decide_eq_true h1]
        refine Yld.g1 rfl (Yld.bindE (rGood_y FF2 (big_in _)) ?_)
        rw [goodB_big']
        by_cases h2 : InM (r.den * 3)
        · rw [decide_eq_true h2]
          refine Yld.g1 rfl (Yld.bindE (Make_f (big_in _) (big_in _)) ?_)
          have h0 := den_pos r
          rw [mkB_big h1 h2 (by omega), Rat.divInt_mul_right (by decide), Rat.num_divInt_den, ofR_fits hf]
          exact Yld.iff (by simp) (Yld.some rfl)
        · rw [decide_eq_false h2]
          exact Yld.g0 rfl (Yld.iff rfl (Yld.some rfl))
      · rw [decide_eq_false h1]
        exact Yld.g0 rfl (Yld.g0 rfl (Yld.iff rfl (Yld.some rfl)))
  · rintro o rfl
    dsimp only [alt2]
    refine Yld.bindE sanity_y (Yld.g1 rfl (Yld.bindE (rMake_f hn hd) ?_))
    refine Yld.g1 (by simp) (Yld.bindE (Whole_f hn) (Yld.g1 (by simp) (Yld.bindE (rWhole_f hn) ?_)))
    refine Yld.g1 (by simp) (Yld.bindE (Of_f ha) (Yld.g1 (by simp) (Yld.bindE (rOf_f ha) ?_)))
    refine Yld.g1 (by simp) (Yld.bindE (Frac_f ha hb) (Yld.g1 (by simp) (Yld.bindE (rFrac_f ha hb) ?_)))
    refine Yld.g1 (by simp) (Yld.bindE (Valid_f hx) (Yld.g1 (by simp) (Yld.bindE (rValid_f hx) ?_)))
    refine Yld.g1 (by simp) (Yld.bindE (Good_f hx) (Yld.g1 (by simp) (Yld.bindE (rGood_f hx) ?_)))
    refine Yld.g1 (by simp) (Yld.bindE (Valid_f (mkB_in n d)) ?_)
    rw [vF_mkB]
    exact Yld.g1 (by simp) (Yld.bindE Bad_f (Yld.g1 (by simp) (Yld.bindE rBad_f (Yld.some (by simp)))))
end Go.Proofs.YtdjnlmmhbeeihaaGreatDoor

namespace Go.Proofs.YtdjnlmmhbeeihaaGreatDoor
open Go Go.Sk
theorem inB_of {x : Big} {h : PH} {v : Value} (hx : (BV.agg (eBig x)).rel h (fun _ => .bool false) v) : inB x := by
  obtain ⟨cs, _, hr⟩ := hx
  unfold eBig at hr
  generalize cs.toList = L at hr
  cases hr with
  | cons _ hr =>
    cases hr with
    | cons _ hr =>
      have := ints_of_rel hr
      intro i
      by_cases hi : i < x.W.l.length
      · have h1 := this x.W.l[i] (List.getElem_mem hi)
        have e : dg x.W.l i = x.W.l[i] := by simp [dg, List.getD, List.getElem?_eq_getElem hi]
        rw [e]
        have h2 : 0 ≤ x.W.l[i] ∧ x.W.l[i] ≤ 4294967295 := by simpa [inR, IntKind.min, IntKind.max, IntKind.signed, IntKind.bits] using h1
        omega
      · rw [dg_ge (by omega)]; decide
theorem in64_of {x : Int} {h : PH} {v : Value} (hx : (BV.one (.int .i64 x)).rel h (fun _ => .bool false) v) : -9223372036854775808 ≤ x ∧ x ≤ 9223372036854775807 := by
  have h1 : v = .int .i64 x ∧ inR .i64 x := hx
  exact inR_i64_iff.1 h1.2
end Go.Proofs.YtdjnlmmhbeeihaaGreatDoor

namespace Go.Sk
open Go
theorem int_mem_rel {h : PH} {cs : List CP} {L : List Value} {k : IntKind} {z : Int} (hr : cellsRel h cs L) (hm : CP.int k z ∈ cs) : inR k z := by
  obtain ⟨i, hi, he⟩ := List.getElem_of_mem hm
  obtain ⟨u, _, hu⟩ := All2.get hr i (.int k z) (by rw [List.getElem?_eq_getElem hi, he])
  exact hu.2
end Go.Sk
namespace Go.Proofs.YtdjnlmmhbeeihaaGreatDoor
open Go Go.Sk
theorem inD_of {w : A16} (H : ∀ z ∈ w.l, inR .u32 z) : inD 4294967296 w.l := fun i => by
  by_cases hi : i < w.l.length
  · have h1 := H w.l[i] (List.getElem_mem hi)
    have e : dg w.l i = w.l[i] := by simp [dg, List.getD, List.getElem?_eq_getElem hi]
    rw [e]
    have h2 : 0 ≤ w.l[i] ∧ w.l[i] ≤ 4294967295 := by simpa [inR, IntKind.min, IntKind.max, IntKind.signed, IntKind.bits] using h1
    omega
  · rw [dg_ge (by omega)]; decide
theorem inF_cells {x : Frc} {h : PH} {cs : List CP} {L : List Value} (hr : cellsRel h cs L) (hm : ∀ c ∈ eFrc x, c ∈ cs) : inF x := by
  refine ⟨inD_of fun z hz => int_mem_rel hr (hm _ ?_), inD_of fun z hz => int_mem_rel hr (hm _ ?_)⟩
  · unfold eFrc eBig
    exact List.mem_append_left _ (List.mem_cons_of_mem _ (List.mem_cons_of_mem _ (List.mem_map_of_mem hz)))
  · unfold eFrc eBig
    exact List.mem_append_right _ (List.mem_cons_of_mem _ (List.mem_cons_of_mem _ (List.mem_map_of_mem hz)))
theorem inF_of {x : Frc} {h : PH} {v : Value} (hx : (BV.agg (eFrc x)).rel h (fun _ => .bool false) v) : inF x := by
  obtain ⟨cs, _, hr⟩ := hx
  exact inF_cells hr fun c hc => hc
end Go.Proofs.YtdjnlmmhbeeihaaGreatDoor

namespace Go.Proofs.YtdjnlmmhbeeihaaGreatDoor
open Go Go.Sk
theorem makes_law {mx : Int} (n : Big) (d : Big) (x : Frc) (a : Int) (b : Int) (hn : inB n) (hd : inB d) (hx : inF x) (ha : -9223372036854775808 ≤ a ∧ a ≤ 9223372036854775807) (hb : -9223372036854775808 ≤ b ∧ b ≤ 9223372036854775807) : Meets Tryz.prog (tabs mx) 3 [] [.agg (eBig n), .agg (eBig d), .agg (eFrc x), .one (.i a), .one (.i b)] (Is [] (.b (.one (.bool true)))) :=
  skewbacklaw04_RatioMakesAsSpecified_spec (makes_y hn hd hx ha hb)
end Go.Proofs.YtdjnlmmhbeeihaaGreatDoor

