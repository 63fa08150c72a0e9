/- the plain law -/
import Derived.Test.YtdjnlmmhbeeihaaGreatDoorP1
namespace Go.Proofs.YtdjnlmmhbeeihaaGreatDoor
open Go Go.Sk
set_option linter.unusedSimpArgs false
set_option linter.unusedVariables false
def bf : Frc := ⟨bad, big 1⟩
def fits (r : Rat) : Prop := InM r.num ∧ InM r.den
noncomputable instance (r : Rat) : Decidable (fits r) := Classical.propDecidable _
def mk (r : Rat) : Frc := ⟨big r.num, big r.den⟩
noncomputable def ofR (r : Rat) : Frc := if fits r then mk r else bf
abbrev inF (x : Frc) : Prop := inB x.N ∧ inB x.D
def qF (x : Frc) : Option Rat := match iv x.N, iv x.D with
 | some n, some d => if 0 < d ∧ Nat.gcd n.natAbs d.natAbs = 1 then some (Rat.divInt n d) else none
 | _, _ => none
noncomputable def mkB (n d : Big) : Frc := match iv n, iv d with
 | some a, some b => if b = 0 then bf else ofR (Rat.divInt a b)
 | _, _ => bf
theorem in_mk {N D : Big} (h1 : inB N) (h2 : inB D) : inF ⟨N, D⟩ := And.intro h1 h2
theorem bf_in : inF bf := in_mk bad_in (big_in 1)
theorem mk_in (r : Rat) : inF (mk r) := in_mk (big_in _) (big_in _)
theorem ofR_in (r : Rat) : inF (ofR r) := by unfold ofR; split; exact mk_in r; exact bf_in
theorem mkB_in (n d : Big) : inF (mkB n d) := by
 unfold mkB; split
 ·split; exact bf_in; exact ofR_in _
 ·exact bf_in
theorem ofR_fits {r : Rat} (h : fits r) : ofR r = mk r := by unfold ofR; rw [if_pos h]
theorem qF_none {N D : Big} (h : iv N = none) : qF ⟨N, D⟩ = none := by
 unfold qF
 dsimp only
 rw [h]
theorem qF_bf : qF bf = none := by
 unfold bf
 exact qF_none iv_bad
theorem qF_of {N D : Big} {n d : Int} (hn : iv N = some n) (hd : iv D = some d) (h0 : 0 < d) (hc : Nat.gcd n.natAbs d.natAbs = 1) : qF ⟨N, D⟩ = some (Rat.divInt n d) := by
 unfold qF
 dsimp only
 rw [hn, hd]
 dsimp only
 rw [if_pos ⟨h0, hc⟩]
theorem qF_mk {r : Rat} (h : fits r) : qF (mk r) = some r := by
 have hc : Nat.gcd r.num.natAbs ((r.den : Int)).natAbs = 1 := by rw [Int.natAbs_natCast]; exact r.reduced
 have := qF_of (iv_big h.1) (iv_big h.2) (den_pos r) hc
 rw [Rat.num_divInt_den] at this
 exact this
theorem qF_some {x : Frc} {r : Rat} (hx : inF x) (h : qF x = some r) : fits r ∧ x = mk r := by
 unfold qF at h
 split at h
 ·next n d hn hd =>
  obtain ⟨_, en, rn⟩ := iv_some hx.1 hn
  obtain ⟨_, ed, rd⟩ := iv_some hx.2 hd
  split at h
  ·next hc =>
   have e := divInt_cop hc.1 hc.2
   cases h
   refine ⟨⟨by rw [e.1]; exact rn, by rw [e.2]; exact rd⟩, ?_⟩
   unfold mk
   rw [e.1, e.2, ← en, ← ed]
  ·cases h
 ·cases h
theorem fq_mul {q g : Int} (h : g ≠ 0) : fq (q * g) g = q := by
 refine (fq_unique h (r := 0) (by rw [Int.mul_comm]; omega) ?_ (.inl rfl)).1.symm
 have := absZ_pos h
 simpa [absZ] using this
theorem red_fits {n d : Int} (hd : d ≠ 0) (rn : InM n) (rd : InM d) : fits (Rat.divInt n d) := by
 obtain ⟨g0, e1, e2⟩ := red (n := n) hd
 have key : ∀ {a g m : Int}, g ≠ 0 → a * g = m → InM m → InM a := fun {a g m} hg e hm => by
  have h1 : a.natAbs * g.natAbs = m.natAbs := by rw [← Int.natAbs_mul, e]
  have h2 : a.natAbs * 1 ≤ a.natAbs * g.natAbs := Nat.mul_le_mul_left _ (by omega)
  constructor <;> have := hm.1 <;> have := hm.2 <;> omega
 exact ⟨key g0 e1 rn, key g0 e2 rd⟩
theorem goodz_y {x : Big} : ratio_good_S FF x = some (goodB x) := by
 refine Yld.eq ?_
 unfold ratio_good_S goodB
 cases h : x.Bad with
 | true => exact Yld.g0 rfl (Yld.some (by simp))
 | false => exact Yld.g1 rfl (Yld.bindE (Valid_y FF x) (Yld.some (by simp [h])))
theorem one_y : ratio_one_S FF = some (big 1) := by
 unfold ratio_one_S
 rw [Of_v (by decide) (by decide)]; rfl
theorem Bad_f : ratio_Bad_S FF = some bf := by
 unfold ratio_Bad_S
 rw [Bad_y, Option.bind_some, one_y]; rfl
theorem sgn_pos {d : Int} : decide (0 < sgn d) = decide (0 < d) := by rw [decide_eq_decide]; unfold sgn; split <;> (try split) <;> omega
theorem sgn_neg {d : Int} : decide (sgn d < 0) = decide (d < 0) := by rw [decide_eq_decide]; unfold sgn; split <;> (try split) <;> omega
theorem sgn_zero {d : Int} : decide (sgn d = 0) = decide (d = 0) := by rw [decide_eq_decide]; unfold sgn; split <;> (try split) <;> omega
theorem Good_f {x : Frc} (hx : inF x) : ratio_Good_S FF x = some (qF x).isSome := by
 refine Yld.eq ?_
 unfold ratio_Good_S qF
 refine Yld.bindE goodz_y ?_
 cases hn : iv x.N with
 | none =>
  rw [iv_none hn]
  exact Yld.g0 rfl (Yld.g0 rfl (Yld.g0 rfl (Yld.g0 rfl (Yld.some rfl))))
 | some n =>
  obtain ⟨gn, en, rn⟩ := iv_some hx.1 hn
  rw [gn]
  refine Yld.g1 rfl (Yld.bindE goodz_y ?_)
  cases hd : iv x.D with
  | none =>
   rw [iv_none hd]
   exact Yld.g0 rfl (Yld.g0 rfl (Yld.g0 rfl (Yld.some rfl)))
  | some d =>
   obtain ⟨gd, ed, rd⟩ := iv_some hx.2 hd
   rw [gd, en, ed]
   refine Yld.g1 rfl (Yld.bindE (Sign_v rd) ?_)
   rw [sgn_pos]
   by_cases h0 : 0 < d
   ·rw [decide_eq_true h0]
    refine Yld.g1 rfl (Yld.bindE (Gcd_v rn rd) (Yld.g1 rfl (Yld.bindE one_y (Yld.some ?_))))
    have hg : InM (Nat.gcd n.natAbs d.natAbs : Nat) := by
     have := Nat.gcd_le_right n.natAbs (show 0 < d.natAbs by omega)
     have := rd.1; have := rd.2
     constructor <;> omega
    have e : (big (Nat.gcd n.natAbs d.natAbs : Nat) = big 1) = (Nat.gcd n.natAbs d.natAbs = 1) := by
     rw [eq_iff_iff, big_inj hg one_InM]; omega
    simp only [e]
    by_cases h1 : Nat.gcd n.natAbs d.natAbs = 1
    ·simp [h1, h0]
    ·simp [h1]
   ·rw [decide_eq_false h0]
    refine Yld.g0 rfl (Yld.g0 rfl (Yld.some ?_))
    simp [h0]
theorem Make_f {n d : Big} (hn : inB n) (hd : inB d) : ratio_Make_S FF n d = some (mkB n d) := by
 refine Yld.eq ?_
 unfold ratio_Make_S mkB
 refine Yld.bindE goodz_y ?_
 cases ha : iv n with
 | none =>
  rw [iv_none ha]
  exact Yld.g0 rfl (Yld.g0 rfl (Yld.ift rfl (Yld.bindE Bad_f (Yld.some rfl))))
 | some a =>
  obtain ⟨ga, rfl, ra⟩ := iv_some hn ha
  rw [ga]
  refine Yld.g1 rfl (Yld.bindE goodz_y ?_)
  cases hb : iv d with
  | none =>
   rw [iv_none hb]
   exact Yld.g0 rfl (Yld.ift rfl (Yld.bindE Bad_f (Yld.some rfl)))
  | some b =>
   obtain ⟨gb, rfl, rb⟩ := iv_some hd hb
   rw [gb]
   refine Yld.g1 rfl (Yld.bindE (Sign_v rb) ?_)
   rw [sgn_zero]
   by_cases h0 : b = 0
   ·rw [decide_eq_true h0]
    exact Yld.ift rfl (Yld.bindE Bad_f (Yld.some (by simp [h0])))
   ·rw [decide_eq_false h0]
    have hg : InM (Nat.gcd a.natAbs b.natAbs : Nat) := by
     have := Nat.gcd_le_right a.natAbs (show 0 < b.natAbs by omega)
     have := rb.1; have := rb.2
     constructor <;> omega
    have hgs : InM (gcdS a b) := by unfold gcdS; split <;> (have := hg.1; have := hg.2; constructor <;> omega)
    obtain ⟨g0, e1, e2⟩ := red (n := a) h0
    refine Yld.iff rfl (Yld.bindE (Gcd_v ra rb) (Yld.bind (P := fun g => g = big (gcdS a b)) (Yld.bindE (Sign_v rb) ?_) ?_))
    ·rw [sgn_neg]
     unfold gcdS
     refine Yld.ite (fun h => ?_) (fun h => ?_)
     ·rw [if_pos (of_decide_eq_true h), Neg_y FF1 (big_in _), one_big hg]; exact Yld.some rfl
     ·rw [if_neg (of_decide_eq_false h)]; exact Yld.some rfl
    ·rintro g rfl
     refine Yld.bindE (Quo_v ra hgs g0) (Yld.bindE (Quo_v rb hgs g0) (Yld.some ?_))
     dsimp only
     rw [if_neg h0, ofR_fits (red_fits h0 ra rb)]
     unfold mk
     have f1 : fq a (gcdS a b) = (Rat.divInt a b).num := by
      have := fq_mul (q := (Rat.divInt a b).num) g0
      rwa [e1] at this
     have f2 : fq b (gcdS a b) = ((Rat.divInt a b).den : Int) := by
      have := fq_mul (q := ((Rat.divInt a b).den : Int)) g0
      rwa [e2] at this
     rw [f1, f2]
end Go.Proofs.YtdjnlmmhbeeihaaGreatDoor

namespace Go.Proofs.YtdjnlmmhbeeihaaGreatDoor
open Go Go.Sk
set_option linter.unusedSimpArgs false
set_option linter.unusedVariables false
def un (f : Rat → Frc) (x : Frc) : Frc := match qF x with
 | some r => f r
 | none => bf
def bi (f : Rat → Rat → Frc) (x y : Frc) : Frc := match qF x, qF y with
 | some r, some s => f r s
 | _, _ => bf
theorem un_none {f : Rat → Frc} {x : Frc} (h : qF x = none) : un f x = bf := by unfold un; rw [h]
theorem un_some {f : Rat → Frc} {x : Frc} {r : Rat} (h : qF x = some r) : un f x = f r := by unfold un; rw [h]
theorem neg_nd (r : Rat) : (-r).num = -r.num ∧ (-r).den = r.den := ⟨rfl, rfl⟩
theorem neg_fits {r : Rat} (h : fits r) : fits (-r) := by
 obtain ⟨⟨h1, h2⟩, h3⟩ := h
 exact ⟨by rw [(neg_nd r).1]; constructor <;> omega, by rw [(neg_nd r).2]; exact h3⟩
theorem mk_N (r : Rat) : (mk r).N = big r.num := by simp only [mk]
theorem mk_D (r : Rat) : (mk r).D = big r.den := by simp only [mk]
theorem Neg_f {x : Frc} (hx : inF x) : ratio_Neg_S FF x = some (un (fun r => ofR (-r)) x) := by
 refine Yld.eq ?_
 unfold ratio_Neg_S
 refine Yld.bindE (Good_f hx) ?_
 cases hq : qF x with
 | none => rw [un_none hq]; exact Yld.ift rfl (Yld.bindE Bad_f (Yld.some rfl))
 | some r =>
  obtain ⟨hf, rfl⟩ := qF_some hx hq
  rw [un_some hq, ofR_fits (neg_fits hf), mk_N, mk_D]
  refine Yld.iff rfl (Yld.bindE (x := big (-r.num)) (by rw [Neg_y FF1 (big_in _), one_big hf.1]; rfl) (Yld.some ?_))
  unfold mk
  rw [(neg_nd r).1, (neg_nd r).2]
theorem un_in {f : Rat → Frc} (hf : ∀ r, inF (f r)) (x : Frc) : inF (un f x) := by unfold un; split; exact hf _; exact bf_in
def qd (r s : Rat) : Int := ((r.den / Nat.gcd r.den s.den : Nat) : Int)
abbrev plus := fun a b : Int => some (a + b)
noncomputable def addR (r s : Rat) : Frc := mkB (two plus (big (r.num * qd s r)) (big (s.num * qd r s))) (big (qd r s * s.den))
noncomputable def subR (r s : Rat) : Frc := addR r (-s)
noncomputable def mulR (r s : Rat) : Frc := ofR (r * s)
noncomputable def divR (r s : Rat) : Frc := if s.num = 0 then bf else ofR (r / s)
theorem Sign_f {x : Frc} (hx : inF x) : ratio_Sign_S FF x = some (match qF x with | some r => sgn r.num | none => 0) := by
 refine Yld.eq ?_
 unfold ratio_Sign_S
 refine Yld.bindE (Good_f hx) ?_
 cases hq : qF x with
 | none => exact Yld.ift rfl (Yld.some rfl)
 | some r =>
  obtain ⟨hf, rfl⟩ := qF_some hx hq
  exact Yld.iff rfl (Yld.bindE (Sign_v hf.1) (Yld.some rfl))
theorem floor_fq (r : Rat) : fq r.num r.den = r.floor := by
 rw [Rat.floor_def]
 exact (fq_fr_pos r.num (den_pos r)).1
def unB (f : Rat → Int) (x : Frc) : Big := match qF x with
 | some r => big (f r)
 | none => bad
theorem unB_none {f : Rat → Int} {x : Frc} (h : qF x = none) : unB f x = bad := by unfold unB; rw [h]
theorem unB_some {f : Rat → Int} {x : Frc} {r : Rat} (h : qF x = some r) : unB f x = big (f r) := by unfold unB; rw [h]
theorem unB_in (f : Rat → Int) (x : Frc) : inB (unB f x) := by unfold unB; split; exact big_in _; exact bad_in
theorem floor_in {r : Rat} (h : fits r) : InM r.floor := by
 rw [← floor_fq]
 exact fq_rng (by have := den_pos r; omega) h.1
theorem Floor_f {x : Frc} (hx : inF x) : ratio_Floor_S FF x = some (unB Rat.floor x) := by
 refine Yld.eq ?_
 unfold ratio_Floor_S
 refine Yld.bindE (Good_f hx) ?_
 cases hq : qF x with
 | none => rw [unB_none hq]; exact Yld.ift rfl (Yld.bindE (Bad_y FF) (Yld.some rfl))
 | some r =>
  obtain ⟨hf, rfl⟩ := qF_some hx hq
  rw [unB_some hq, mk_N, mk_D]
  refine Yld.iff rfl (Yld.bindE (Quo_v hf.1 hf.2 (by have := den_pos r; omega)) (Yld.some ?_))
  rw [floor_fq]
theorem Ceil_f {x : Frc} (hx : inF x) : ratio_Ceil_S FF x = some (unB Rat.ceil x) := by
 refine Yld.eq ?_
 unfold ratio_Ceil_S
 refine Yld.bindE (Neg_f hx) (Yld.bindE (Floor_f (un_in (fun r => ofR_in _) _)) (Yld.bindE (Neg_y FF1 (unB_in _ _)) (Yld.some ?_)))
 cases hq : qF x with
 | none => rw [un_none hq, unB_none hq, unB_none qF_bf]; rfl
 | some r =>
  obtain ⟨hf, rfl⟩ := qF_some hx hq
  rw [un_some hq, unB_some hq, ofR_fits (neg_fits hf), unB_some (qF_mk (neg_fits hf)), one_big (floor_in (neg_fits hf)), Rat.ceil_eq_neg_floor_neg]; rfl
end Go.Proofs.YtdjnlmmhbeeihaaGreatDoor

namespace Go.Proofs.YtdjnlmmhbeeihaaGreatDoor
open Go Go.Sk
set_option linter.unusedSimpArgs false
set_option linter.unusedVariables false
theorem rSign_v {a : Int} (ra : InM a) : r3_Sign_S FF (big a) = some (sgn a) := by rw [rSign_y FF2 (big_in a), iv_big ra]
theorem rQuo_v {a b : Int} (ra : InM a) (rb : InM b) (h : b ≠ 0) : r3_Quo_S FF (big a) (big b) = some (big (fq a b)) := by rw [rQuo_y FF2 (big_in a) (big_in b), two_big ra rb]; simp only [quoO, h, if_false]; rfl
theorem rOf_v {n : Int} (h0 : -9223372036854775808 ≤ n) (h1 : n ≤ 9223372036854775807) : r3_Of_S FF n = some (big n) := rOf_y FF2 h0 h1
theorem rone_y : r4_one_S FF = some (big 1) := by
 unfold r4_one_S
 rw [rOf_v (by decide) (by decide)]; rfl
theorem rBad_f : r4_Bad_S FF = some bf := by
 unfold r4_Bad_S
 rw [rBad_y, Option.bind_some, rone_y]; rfl
theorem rGood_f {x : Frc} (hx : inF x) : r4_Good_S FF x = some (qF x).isSome := by
 refine Yld.eq ?_
 unfold r4_Good_S qF
 refine Yld.bindE (rGood_y FF2 hx.1) ?_
 cases hn : iv x.N with
 | none =>
  rw [iv_none hn]
  exact Yld.g0 rfl (Yld.ift rfl (Yld.some rfl))
 | some n =>
  obtain ⟨gn, en, rn⟩ := iv_some hx.1 hn
  rw [gn]
  refine Yld.g1 rfl (Yld.bindE (rGood_y FF2 hx.2) ?_)
  cases hd : iv x.D with
  | none =>
   rw [iv_none hd]
   exact Yld.ift rfl (Yld.some rfl)
  | some d =>
   obtain ⟨gd, ed, rd⟩ := iv_some hx.2 hd
   rw [gd, en, ed]
   refine Yld.iff rfl (Yld.bindE (rSign_v rd) ?_)
   rw [sgn_pos]
   by_cases h0 : 0 < d
   ·rw [decide_eq_true h0]
    refine Yld.g1 rfl (Yld.bindE (rGcd_v rn rd) (Yld.g1 rfl (Yld.bindE rone_y (Yld.some ?_))))
    have hg : InM (Nat.gcd n.natAbs d.natAbs : Nat) := by
     have := Nat.gcd_le_right n.natAbs (show 0 < d.natAbs by omega)
     have := rd.1; have := rd.2
     constructor <;> omega
    have e : (big (Nat.gcd n.natAbs d.natAbs : Nat) = big 1) = (Nat.gcd n.natAbs d.natAbs = 1) := by
     rw [eq_iff_iff, big_inj hg one_InM]; omega
    simp only [e]
    by_cases h1 : Nat.gcd n.natAbs d.natAbs = 1
    ·simp [h1, h0]
    ·simp [h1]
   ·rw [decide_eq_false h0]
    refine Yld.g0 rfl (Yld.g0 rfl (Yld.some ?_))
    simp [h0]
theorem rMake_f {n d : Big} (hn : inB n) (hd : inB d) : r4_Make_S FF n d = some (mkB n d) := by
 refine Yld.eq ?_
 unfold r4_Make_S mkB
 refine Yld.bindE (rGood_y FF2 hn) ?_
 cases ha : iv n with
 | none =>
  rw [iv_none ha]
  exact Yld.g0 rfl (Yld.g0 rfl (Yld.ift rfl (Yld.bindE rBad_f (Yld.some rfl))))
 | some a =>
  obtain ⟨ga, rfl, ra⟩ := iv_some hn ha
  rw [ga]
  refine Yld.g1 rfl (Yld.bindE (rGood_y FF2 hd) ?_)
  cases hb : iv d with
  | none =>
   rw [iv_none hb]
   exact Yld.g0 rfl (Yld.ift rfl (Yld.bindE rBad_f (Yld.some rfl)))
  | some b =>
   obtain ⟨gb, rfl, rb⟩ := iv_some hd hb
   rw [gb]
   refine Yld.g1 rfl (Yld.bindE (rSign_v rb) ?_)
   rw [sgn_zero]
   by_cases h0 : b = 0
   ·rw [decide_eq_true h0]
    exact Yld.ift rfl (Yld.bindE rBad_f (Yld.some (by simp [h0])))
   ·rw [decide_eq_false h0]
    have hg : InM (Nat.gcd a.natAbs b.natAbs : Nat) := by
     have := Nat.gcd_le_right a.natAbs (show 0 < b.natAbs by omega)
     have := rb.1; have := rb.2
     constructor <;> omega
    have hgs : InM (gcdS a b) := by unfold gcdS; split <;> (have := hg.1; have := hg.2; constructor <;> omega)
    obtain ⟨g0, e1, e2⟩ := red (n := a) h0
    refine Yld.iff rfl (Yld.bindE (rGcd_v ra rb) (Yld.bind (P := fun g => g = big (gcdS a b)) (Yld.bindE (rSign_v rb) ?_) ?_))
    ·rw [sgn_neg]
     unfold gcdS
     refine Yld.ite (fun h => ?_) (fun h => ?_)
     ·rw [if_pos (of_decide_eq_true h), rNeg_y FF2 (big_in _), one_big hg]; exact Yld.some rfl
     ·rw [if_neg (of_decide_eq_false h)]; exact Yld.some rfl
    ·rintro g rfl
     refine Yld.bindE (rQuo_v ra hgs g0) (Yld.bindE (rQuo_v rb hgs g0) (Yld.some ?_))
     dsimp only
     rw [if_neg h0, ofR_fits (red_fits h0 ra rb)]
     unfold mk
     have f1 : fq a (gcdS a b) = (Rat.divInt a b).num := by
      have := fq_mul (q := (Rat.divInt a b).num) g0
      rwa [e1] at this
     have f2 : fq b (gcdS a b) = ((Rat.divInt a b).den : Int) := by
      have := fq_mul (q := ((Rat.divInt a b).den : Int)) g0
      rwa [e2] at this
     rw [f1, f2]
theorem rNeg_f {x : Frc} (hx : inF x) : r4_Neg_S FF x = some (un (fun r => ofR (-r)) x) := by
 refine Yld.eq ?_
 unfold r4_Neg_S
 refine Yld.bindE (rGood_f hx) ?_
 cases hq : qF x with
 | none => rw [un_none hq]; exact Yld.ift rfl (Yld.bindE rBad_f (Yld.some rfl))
 | some r =>
  obtain ⟨hf, rfl⟩ := qF_some hx hq
  rw [un_some hq, ofR_fits (neg_fits hf), mk_N, mk_D]
  refine Yld.iff rfl (Yld.bindE (x := big (-r.num)) (by rw [rNeg_y FF2 (big_in _), one_big hf.1]; rfl) (Yld.some ?_))
  unfold mk
  rw [(neg_nd r).1, (neg_nd r).2]
theorem rSign_f {x : Frc} (hx : inF x) : r4_Sign_S FF x = some (match qF x with | some r => sgn r.num | none => 0) := by
 refine Yld.eq ?_
 unfold r4_Sign_S
 refine Yld.bindE (rGood_f hx) ?_
 cases hq : qF x with
 | none => exact Yld.ift rfl (Yld.some rfl)
 | some r =>
  obtain ⟨hf, rfl⟩ := qF_some hx hq
  exact Yld.iff rfl (Yld.bindE (rSign_v hf.1) (Yld.some rfl))
theorem rFloor_f {x : Frc} (hx : inF x) : r4_Floor_S FF x = some (unB Rat.floor x) := by
 refine Yld.eq ?_
 unfold r4_Floor_S
 refine Yld.bindE (rGood_f hx) ?_
 cases hq : qF x with
 | none => rw [unB_none hq]; exact Yld.ift rfl (Yld.bindE (rBad_y FF) (Yld.some rfl))
 | some r =>
  obtain ⟨hf, rfl⟩ := qF_some hx hq
  rw [unB_some hq, mk_N, mk_D]
  refine Yld.iff rfl (Yld.bindE (rQuo_v hf.1 hf.2 (by have := den_pos r; omega)) (Yld.some ?_))
  rw [floor_fq]
theorem rCeil_f {x : Frc} (hx : inF x) : r4_Ceil_S FF x = some (unB Rat.ceil x) := by
 refine Yld.eq ?_
 unfold r4_Ceil_S
 refine Yld.bindE (rNeg_f hx) (Yld.bindE (rFloor_f (un_in (fun r => ofR_in _) _)) (Yld.bindE (rNeg_y FF2 (unB_in _ _)) (Yld.some ?_)))
 cases hq : qF x with
 | none => rw [un_none hq, unB_none hq, unB_none qF_bf]; rfl
 | some r =>
  obtain ⟨hf, rfl⟩ := qF_some hx hq
  rw [un_some hq, unB_some hq, ofR_fits (neg_fits hf), unB_some (qF_mk (neg_fits hf)), one_big (floor_in (neg_fits hf)), Rat.ceil_eq_neg_floor_neg]; rfl
end Go.Proofs.YtdjnlmmhbeeihaaGreatDoor

namespace Go.Sk
set_option linter.unusedSimpArgs false
set_option linter.unusedVariables false
theorem zl : A16.zero.l = List.replicate 16 0 := rfl
theorem dg_up (w : A16) {q i : Nat} (hq : q < 16) (hi : i < 16) : dg (A16.of (spliceE A16.zero.l q ((w.l.drop 0).take (min 16 (16 - q))))).l i = if i < q then 0 else dg w.l (i - q) := by
 have hm : min 16 (16 - q) = 16 - q := by omega
 have hl : (spliceE A16.zero.l q ((w.l.drop 0).take (16 - q))).length = 16 := by
  unfold spliceE
  simp only [List.length_append, List.length_take, List.length_drop, A16.l_len]
  omega
 rw [hm, A16.l_of hl]
 unfold spliceE
 have h1 : (A16.zero.l.take q).length = q := by simp [A16.l_len]; omega
 have h2 : ((w.l.drop 0).take (16 - q)).length = 16 - q := by simp [A16.l_len]
 rw [List.append_assoc, dg_append, h1]
 split
 ·next h => rw [dg_take, if_pos h, zl, dg_replicate]
 ·next h =>
  rw [dg_append, h2, if_pos (by omega), dg_take, if_pos (by omega), List.drop_zero]
theorem pow_32 (q : Nat) : (4294967296 : Int) ^ q = 2 ^ (32 * q) := by rw [Int.pow_mul]; rfl
def shO (a n : Int) : Option Int := if a = 0 then some 0 else if 512 ≤ n ∨ (0 < n ∧ 512 < blen a + n) then none else if 0 ≤ n then some (a * 2 ^ n.toNat) else some (a / 2 ^ (-n).toNat)
theorem blen_fit {a : Int} (h0 : 0 < a) {n : Nat} : (blen a + n ≤ 512 ↔ a * 2 ^ n < MM) := by
 obtain ⟨h1, h2, h3⟩ := blen_spec h0
 have hp := pow2_pos n
 have eM : MM = 2 ^ 512 := by rw [MM_eq]; decide +kernel
 rw [eM]
 constructor
 ·intro h
  have g := Int.mul_lt_mul_of_pos_right h3 hp
  rw [← Int.pow_add] at g
  have := pow2_le (show (blen a).toNat + n ≤ 512 by omega)
  omega
 ·intro h
  have g := Int.mul_le_mul_of_nonneg_right h2 (Int.le_of_lt hp)
  rw [← Int.pow_add] at g
  rcases (by omega : blen a + n ≤ 512 ∨ 512 ≤ (blen a).toNat - 1 + n) with e | e
  ·exact e
  ·have := pow2_le e
   omega
end Go.Sk
namespace Go.Proofs.YtdjnlmmhbeeihaaGreatDoor
open Go Go.Sk
set_option linter.unusedSimpArgs false
set_option linter.unusedVariables false
end Go.Proofs.YtdjnlmmhbeeihaaGreatDoor

namespace Go.Proofs.YtdjnlmmhbeeihaaGreatDoor
open Go Go.Sk
set_option linter.unusedSimpArgs false
set_option linter.unusedVariables false
theorem pow2_pos' (k : Nat) : (0 : Int) < 2 ^ k := Int.pow_pos (by decide)
theorem sh_out {a : Int} {k : Nat} (h : ¬ absZ a * 2 ^ k < MM) : ¬ InM (a * 2 ^ k) := fun hi => by
 have := (absZ_lt hi).2
 rw [absZ_mul] at this
 have e : absZ ((2 : Int) ^ k) = 2 ^ k := by
  unfold absZ
  rw [if_neg (by have := pow2_pos' k; omega)]
 rw [e] at this
 exact h this
theorem sh_sign {a m : Int} {k : Nat} (hm : m = absZ a) : (if decide (a < 0) = true then -(m * 2 ^ k) else m * 2 ^ k) = a * 2 ^ k := by
 subst hm
 unfold absZ
 by_cases h : a < 0
 ·rw [if_pos (decide_eq_true h), if_pos h, Int.neg_mul, Int.neg_neg]
 ·rw [if_neg (by simpa using h), if_neg h]
theorem dec_sgn' {z : Int} : decide (sgn z = 0) = decide (z = 0) := sgn_zero
theorem Shift_n {a : Int} {k : Nat} (ra : InM a) (hk : k ≤ 256) : whole_Shift_S FF (big a) (k : Int) = some (big (a * 2 ^ k)) := by
 refine Yld.eq ?_
 unfold whole_Shift_S
 obtain ⟨wa, na⟩ := sv_big_W ra
 have ia := big_in a
 change av (big a).W = absZ a at wa
 refine Yld.bindE (good1 FF1 _) ?_
 rw [goodB_big ra]
 refine Yld.iff rfl (Yld.bindE (Sign_v ra) ?_)
 rw [dec_sgn']
 by_cases hz : a = 0
 ·subst hz
  rw [Int.zero_mul]
  exact Yld.ift rfl (Yld.some rfl)
 ·rw [decide_eq_false hz]
  have hap : 0 < absZ a := absZ_pos hz
  obtain ⟨m, hm⟩ : ∃ m, m = absZ a := ⟨_, rfl⟩
  rw [← hm] at wa hap
  have hml : m < MM := by rw [hm]; exact (absZ_lt ra).2
  refine Yld.iff rfl ?_
  have hbl := blen_nonneg m
  have hbl2 : blen m ≤ 512 := by
   have := (blen_fit hap (n := 0)).2 (by rw [Int.pow_zero, Int.mul_one]; exact hml)
   omega
  refine Yld.bind (P := fun b => ((decide (512 ≤ (k : Int))) || ((decide (0 < (k : Int))) && (decide (512 < (IntKind.i64.wrap (b + (k : Int))))))) = decide (0 < (k : Int) ∧ 512 < blen m + (k : Int))) ?_ ?_
  ·have h1 : ¬ 512 ≤ (k : Int) := by omega
   by_cases h2 : 0 < (k : Int)
   ·rw [decide_eq_false h1, decide_eq_true h2]
    have hbv := Bits_v ra
    rw [← hm] at hbv
    refine ⟨blen m, hbv, ?_⟩
    dsimp only
    rw [wi64' (by omega) (by omega)]
    rw [Bool.eq_iff_iff]
    simp only [Bool.false_or, Bool.true_and, decide_eq_true_eq, h2, true_and]
   ·rw [decide_eq_false h1, decide_eq_false h2]
    refine ⟨default, rfl, ?_⟩
    dsimp only
    rw [Bool.eq_iff_iff]
    simp only [Bool.false_or, Bool.false_and, decide_eq_true_eq, h2, false_and, Bool.false_eq_true]
  ·intro b hb
   rw [hb]
   refine Yld.ln ?_
   by_cases hov : 0 < (k : Int) ∧ 512 < blen m + (k : Int)
   ·rw [big_out (sh_out (a := a) (k := k) fun h => by rw [← hm] at h; have := (blen_fit hap (n := k)).2 h; omega)]
    refine Yld.ift (decide_eq_true hov) (Yld.bindE (Bad_y FF) (Yld.some rfl))
   ·refine Yld.iff (decide_eq_false hov) (Yld.iff (decide_eq_false (by omega)) (Yld.quo (by decide) ?_))
    have hq : IntKind.i64.wrap (Int.tdiv (k : Int) 32) = ((k / 32 : Nat) : Int) := by rw [tdiv_pos (by omega), wi64]; omega
    have hr : Int.tmod (k : Int) 32 = ((k % 32 : Nat) : Int) := by rw [tmod_pos (by omega)]; omega
    rw [hq, hr]
    refine Yld.ift (decide_eq_true (by omega)) ?_
    have hslo : slo? 16 ((k / 32 : Nat) : Int) = some (k / 32) := by unfold slo?; rw [if_pos (by omega), Int.toNat_natCast]
    refine Yld.bindE hslo ?_
    rw [Int.toNat_natCast]
    obtain ⟨w, hw⟩ : ∃ w, w = A16.of (spliceE A16.zero.l (k / 32) (((big a).W.l.drop 0).take (min 16 (16 - k / 32)))) := ⟨_, rfl⟩
    rw [← hw]
    refine Yld.ln ?_
    have hwd : ∀ i, i < 16 → dg w.l i = if i < k / 32 then 0 else dg (big a).W.l (i - k / 32) := fun i hi => by rw [hw]; exact dg_up _ (by omega) hi
    have win_ : inD 4294967296 w.l := fun i => by
     by_cases hi : i < 16
     ·rw [hwd i hi]; split
      ·decide
      ·exact ia _
     ·rw [dg_ge (by rw [A16.l_len]; omega)]; decide
    have hfit : m * 2 ^ k < MM := by
     by_cases h0 : 0 < (k : Int)
     ·exact (blen_fit hap).1 (by omega)
     ·have : k = 0 := by omega
      subst this
      rw [Int.pow_zero, Int.mul_one]; exact hml
    have hav : av w = m * 4294967296 ^ (k / 32) := by
     have e16 : 16 = k / 32 + (16 - k / 32) := by omega
     have e0 : av w = ds 4294967296 (dg w.l) (k / 32 + (16 - k / 32)) := by rw [← e16]; rfl
     rw [e0, ds_split]
     have e1 : ds 4294967296 (dg w.l) (k / 32) = 0 := ds_zero fun i hi => by rw [hwd i (by omega), if_pos hi]
     have e2 : ds 4294967296 (fun i => dg w.l (k / 32 + i)) (16 - k / 32) = ds 4294967296 (dg (big a).W.l) (16 - k / 32) := ds_congr fun i hi => by
      rw [hwd _ (by omega), if_neg (by omega)]
      congr 1
      omega
     have e3 : ds 4294967296 (dg (big a).W.l) (16 - k / 32) = m := by
      refine Eq.trans ?_ wa
      refine (ds_ext (b := 4294967296) (f := dg (big a).W.l) (n := 16 - k / 32) (m := 16) (by omega) fun i h1 h2 => ?_).symm
      refine win_zero ia (n := 16) (k := 16 - k / 32) (by rw [A16.l_len]; omega) ?_ h1
      rw [win0]
      show av (big a).W < _
      rw [wa]
      have g1 : m * 4294967296 ^ (k / 32) ≤ m * 2 ^ k := by
       rw [pow_32]
       exact Int.mul_le_mul_of_nonneg_left (pow2_le (by omega)) (Int.le_of_lt hap)
      have g2 : (4294967296 : Int) ^ (16 - k / 32) * 4294967296 ^ (k / 32) = MM := by rw [← Int.pow_add, MM32]; congr 1; omega
      have g3 : m * 4294967296 ^ (k / 32) < 4294967296 ^ (16 - k / 32) * 4294967296 ^ (k / 32) := by omega
      exact Int.lt_of_mul_lt_mul_right g3 (Int.le_of_lt (pw_pos _))
     rw [e1, e2, e3, Int.zero_add, Int.mul_comm]
    refine Yld.bind (up_y FF1 win_ (n := k % 32) (by omega)) ?_
    rintro ⟨v, c⟩ ⟨vin, c0, c1, vs⟩
    dsimp only at vin c0 c1 vs
    dsimp only [un2]
    have e4 : av w * 2 ^ (k % 32) = m * 2 ^ k := by
     rw [hav, pow_32, Int.mul_assoc, ← Int.pow_add]
     congr 2
     omega
    rw [e4] at vs
    have hvr := av_range vin
    have hc : c = 0 := by
     rcases (by omega : c = 0 ∨ 1 ≤ c) with g | g
     ·exact g
     ·have := Int.mul_le_mul_of_nonneg_right g (show 0 ≤ MM by have := MM_pos; omega)
      omega
    subst hc
    refine Yld.bindE (signed_y FF _ vin) (Yld.some ?_)
    have e5 : av v = m * 2 ^ k := by omega
    rw [na, e5, sh_sign hm]
theorem power_y (F : Nat) {k : Nat} (hk : k ≤ 256) : Yld (r3_power_S F (k : Int)) fun l => inD 65536 l ∧ lv l = 2 ^ k ∧ l.length ≤ 17 := by
 unfold r3_power_S
 have hq : IntKind.i64.wrap (Int.tdiv (k : Int) 16) = ((k / 16 : Nat) : Int) := by rw [tdiv_pos (by omega), wi64]; omega
 have hr : Int.tmod (k : Int) 16 = ((k % 16 : Nat) : Int) := by rw [tmod_pos (by omega)]; omega
 refine Yld.quo (by decide) ?_
 rw [hq, hr]
 have hw : IntKind.i64.wrap (((k / 16 : Nat) : Int) + 1) = ((k / 16 + 1 : Nat) : Int) := by rw [wi64]; omega
 rw [hw]
 have hmk : mk? (0 : Int) ((k / 16 + 1 : Nat) : Int) ((k / 16 + 1 : Nat) : Int) = some (List.replicate (k / 16 + 1) 0) := by
  unfold mk?
  rw [if_pos (by omega), Int.toNat_natCast]
 refine Yld.bindE hmk (Yld.quo (by decide) ?_)
 have hs : shl? .i64 1 ((k % 16 : Nat) : Int) = some (2 ^ (k % 16)) := by
  unfold shl?
  have hmin : min ((k % 16 : Nat) : Int).toNat IntKind.i64.bits = k % 16 := by
   rw [Int.toNat_natCast]
   show min (k % 16) 64 = k % 16
   omega
  have hb : (2 : Int) ^ (k % 16) ≤ 2 ^ 15 := pow2_le (by omega)
  have hp := pow2_pos' (k % 16)
  have e15 : (2 : Int) ^ 15 = 32768 := by decide
  rw [if_neg (by omega), hmin, Int.one_mul, wi64' (by omega) (by omega)]
 refine Yld.bindE hs (Yld.idx (by omega) (by rw [List.length_replicate]; omega) (Yld.some ?_))
 have hb : (2 : Int) ^ (k % 16) ≤ 2 ^ 15 := pow2_le (by omega)
 have hp := pow2_pos' (k % 16)
 have e15 : (2 : Int) ^ 15 = 32768 := by decide
 have hl : ((List.replicate (k / 16 + 1) (0 : Int)).set (((k / 16 : Nat) : Int)).toNat (2 ^ (k % 16))).length = k / 16 + 1 := by rw [List.length_set, List.length_replicate]
 rw [hq]
 refine ⟨?_, ?_, by rw [hl]; omega⟩
 ·rw [Int.toNat_natCast]
  exact set_inl (by rw [List.length_replicate]; omega) (rep_in _) (by omega)
 ·unfold lv
  rw [hl, Int.toNat_natCast, ds_setl (by omega) (by rw [List.length_replicate]; omega)]
  have e0 : ds 65536 (dg (List.replicate (k / 16 + 1) 0)) (k / 16 + 1) = 0 := ds_zero fun i _ => dg_replicate
  rw [e0, dg_replicate]
  have e1 : (65536 : Int) ^ (k / 16) = 2 ^ (16 * (k / 16)) := by rw [Int.pow_mul]; rfl
  have e2 : (2 : Int) ^ (k % 16) * 2 ^ (16 * (k / 16)) = 2 ^ k := by rw [← Int.pow_add]; congr 1; omega
  rw [e1, ← e2, Int.sub_zero, Int.zero_add]
theorem rShift_n {a : Int} {k : Nat} (ra : InM a) (hk : k ≤ 256) : r3_Shift_S FF (big a) (k : Int) = some (big (a * 2 ^ k)) := by
 refine Yld.eq ?_
 unfold r3_Shift_S
 obtain ⟨_, na⟩ := sv_big_W ra
 refine Yld.bindE (rGood_y FF2 (big_in a)) ?_
 rw [goodB_big ra]
 refine Yld.iff rfl (Yld.bind (dig_y FF2 ra) ?_)
 rintro c ⟨c1, c2, c3, c4⟩
 have hl := len_pos c1 c2
 rw [c3] at hl
 refine Yld.ite (fun h => ?_) (fun h => ?_)
 ·have hz : a = 0 := by
   rw [← absZ_zero]
   have := of_decide_eq_true h
   by_cases e : absZ a = 0
   ·exact e
   ·have := hl.2 e; omega
  subst hz
  rw [Int.zero_mul]
  exact Yld.some rfl
 ·refine Yld.iff (decide_eq_false (by omega)) (Yld.ift (decide_eq_true (by omega)) (Yld.bind (dig_y FF2 ra) ?_))
  rintro d ⟨d1, d2, d3, d4⟩
  refine Yld.bind (power_y FF hk) ?_
  rintro p ⟨p1, p2, p3⟩
  refine Yld.bind (times_y FF2 d1 p1 (by omega) (by omega)) ?_
  rintro t ⟨t1, _, t3, t4⟩
  refine Yld.bindE (num_y FF2 _ (by omega) t1) (Yld.some ?_)
  rw [t3, d3, p2, na, sh_sign rfl]
end Go.Proofs.YtdjnlmmhbeeihaaGreatDoor

namespace Go.Proofs.YtdjnlmmhbeeihaaGreatDoor
open Go Go.Sk
set_option linter.unusedSimpArgs false
set_option linter.unusedVariables false
theorem rRem_v {a b : Int} (ra : InM a) (rb : InM b) (h : b ≠ 0) : r3_Rem_S FF (big a) (big b) = some (big (fr a b)) := by rw [rRem_y FF2 (big_in a) (big_in b), two_big ra rb]; simp only [remO, h, if_false]; rfl
theorem rCmp_v {a b : Int} (ra : InM a) (rb : InM b) : r3_Cmp_S FF (big a) (big b) = some (cmpZ a b) := by rw [rCmp_y FF2 (big_in a) (big_in b), iv_big ra, iv_big rb]
def cmpR (r s : Rat) : Int := if r < s then -1 else if s < r then 1 else 0
def cmpF (x y : Frc) : Int := match qF x, qF y with
 | none, none => 0
 | none, some _ => -1
 | some _, none => 1
 | some r, some s => cmpR r s
structure CmpI (c : Int) (p q r s o : Int) : Prop where
 ip : InM p
 iq : InM q
 ir : InM r
 is : InM s
 q0 : 0 < q
 s0 : 0 < s
 o1 : o = 1 ∨ o = -1
 val : o * cross p q r s = c
theorem CmpI.next {c p q r s o : Int} (h : CmpI c p q r s o) (he : p / q = r / s) (h1 : p % q ≠ 0) (h2 : r % s ≠ 0) : CmpI c q (p % q) s (r % s) (-o) := by
 have a0 := Int.emod_nonneg p (show q ≠ 0 by have := h.q0; omega)
 have a1 := Int.emod_lt_of_pos p h.q0
 have b0 := Int.emod_nonneg r (show s ≠ 0 by have := h.s0; omega)
 have b1 := Int.emod_lt_of_pos r h.s0
 have := h.iq.2
 have := h.is.2
 have := MM_pos
 refine ⟨h.iq, ⟨by omega, by omega⟩, h.is, ⟨by omega, by omega⟩, by omega, by omega, by have := h.o1; omega, ?_⟩
 rw [← h.val, cross_next he, Int.neg_mul, Int.mul_neg]
def dn (x : Big) : Nat := match iv x with
 | some d => d.toNat
 | none => 0
end Go.Proofs.YtdjnlmmhbeeihaaGreatDoor

namespace Go.Proofs.YtdjnlmmhbeeihaaGreatDoor
open Go Go.Sk
set_option linter.unusedSimpArgs false
set_option linter.unusedVariables false
def nearZ (r : Rat) : Int := if (r.den : Int) ≤ 2 * (r.num % r.den) then r.floor + 1 else r.floor
theorem cmpZ_nn {a b : Int} : decide (0 ≤ cmpZ a b) = decide (b ≤ a) := by
 rw [decide_eq_decide]; unfold cmpZ; split <;> (try split) <;> omega
theorem mod_rng (r : Rat) : 0 ≤ r.num % r.den ∧ r.num % r.den < r.den := by
 have h := den_pos r
 exact ⟨Int.emod_nonneg _ (by omega), Int.emod_lt_of_pos _ h⟩
theorem Near_f {x : Frc} (hx : inF x) : ratio_Near_S FF x = some (unB nearZ x) := by
 refine Yld.eq ?_
 unfold ratio_Near_S
 refine Yld.bindE (Floor_f hx) ?_
 cases hq : qF x with
 | none => rw [unB_none hq, unB_none hq]; exact Yld.ift rfl (Yld.some rfl)
 | some r =>
  obtain ⟨hf, rfl⟩ := qF_some hx hq
  have h0 := den_pos r
  have hd := hf.2.2
  have hm := mod_rng r
  have hM := MM_pos
  rw [unB_some hq, unB_some hq, big_Bad, decide_eq_true (floor_in hf), mk_N, mk_D]
  refine Yld.iff rfl (Yld.bindE (Rem_v hf.1 hf.2 (by omega)) ?_)
  rw [(fq_fr_pos r.num h0).2]
  refine Yld.bindE (Sub_v hf.2 ⟨by omega, by omega⟩) (Yld.bindE (Cmp_v ⟨by omega, by omega⟩ ⟨by omega, by omega⟩) ?_)
  rw [cmpZ_nn]
  unfold nearZ
  refine Yld.ite (fun h => ?_) (fun h => ?_)
  ·rw [if_pos (by have := of_decide_eq_true h; omega)]
   exact Yld.bindE one_y (Yld.bindE (Add_v (floor_in hf) one_InM) (Yld.some rfl))
  ·rw [if_neg (by have := of_decide_eq_false h; omega)]
   exact Yld.some rfl
theorem rSub_v {a b : Int} (ra : InM a) (rb : InM b) : r3_Sub_S FF (big a) (big b) = some (big (a - b)) := by rw [rSub_y FF2 (big_in a) (big_in b), two_big ra rb]; rfl
theorem rAdd_v {a b : Int} (ra : InM a) (rb : InM b) : r3_Add_S FF (big a) (big b) = some (big (a + b)) := by rw [rAdd_y FF2 (big_in a) (big_in b), two_big ra rb]; rfl
theorem rNear_f {x : Frc} (hx : inF x) : r4_Near_S FF x = some (unB nearZ x) := by
 refine Yld.eq ?_
 unfold r4_Near_S
 refine Yld.bindE (rGood_f hx) ?_
 cases hq : qF x with
 | none => rw [unB_none hq]; exact Yld.ift rfl (Yld.bindE (rBad_y FF) (Yld.some rfl))
 | some r =>
  obtain ⟨hf, rfl⟩ := qF_some hx hq
  have h0 := den_pos r
  have hd := hf.2.2
  have hm := mod_rng r
  have hM := MM_pos
  rw [unB_some hq, mk_N, mk_D]
  refine Yld.iff rfl (Yld.bindE (rQuo_v hf.1 hf.2 (by omega)) (Yld.bindE (rRem_v hf.1 hf.2 (by omega)) ?_))
  rw [(fq_fr_pos r.num h0).2, floor_fq]
  refine Yld.bindE (rSub_v hf.2 ⟨by omega, by omega⟩) (Yld.bindE (rCmp_v ⟨by omega, by omega⟩ ⟨by omega, by omega⟩) ?_)
  rw [cmpZ_nn]
  unfold nearZ
  refine Yld.ite (fun h => ?_) (fun h => ?_)
  ·rw [if_pos (by have := of_decide_eq_true h; omega)]
   exact Yld.bindE rone_y (Yld.bindE (rAdd_v (floor_in hf) one_InM) (Yld.some rfl))
  ·rw [if_neg (by have := of_decide_eq_false h; omega)]
   exact Yld.some rfl
abbrev ngB (x : Big) : Big := one (fun a => some (-a)) x
noncomputable def dyL (r : Rat) (k : Nat) : Frc := mkB (two quoO (big (r.num * 2 ^ k)) (big r.den)) (big (1 * 2 ^ k))
noncomputable def dyH (r : Rat) (k : Nat) : Frc := mkB (ngB (two quoO (ngB (big (r.num * 2 ^ k))) (big r.den))) (big (1 * 2 ^ k))
noncomputable def dyF (x : Frc) (k : Int) : Frc × Frc := match qF x with
 | some r => if k < 0 ∨ 256 < k then (bf, bf) else if ((qF (dyL r k.toNat)).isSome && (qF (dyH r k.toNat)).isSome) = true then (dyL r k.toNat, dyH r k.toNat) else (bf, bf)
 | none => (bf, bf)
theorem Dyadic_f {x : Frc} (hx : inF x) {k : Int} : ratio_Dyadic_S FF x k = some (dyF x k) := by
  refine Yld.eq ?_
  unfold ratio_Dyadic_S dyF
  refine Yld.bindE (Good_f hx) ?_
  cases hq : qF x with
  | none => exact Yld.ift rfl (Yld.bindE Bad_f (Yld.bindE Bad_f (Yld.some rfl)))
  | some r =>
    obtain ⟨hf, rfl⟩ := qF_some hx hq
    dsimp only
    by_cases hk : k < 0 ∨ 256 < k
    · rw [if_pos hk]
      refine Yld.ift ?_ (Yld.bindE Bad_f (Yld.bindE Bad_f (Yld.some rfl)))
      rcases hk with h | h <;> simp [h]
    · rw [if_neg hk]
      refine Yld.iff (by have h1 : ¬ k < 0 := by omega
                         have h2 : ¬ 256 < k := by omega
                         simp [h1, h2]) ?_
      obtain ⟨n, rfl⟩ : ∃ n : Nat, k = n := ⟨k.toNat, by omega⟩
      rw [Int.toNat_natCast, mk_N, mk_D]
      have hn : n ≤ 256 := by omega
      refine Yld.bindE (Shift_n hf.1 hn) (Yld.bindE one_y (Yld.bindE (Shift_n one_InM hn) (Yld.bindE (Quo_y FFb (big_in _) (big_in _)) (Yld.bindE (Make_f (two_in _ _ _) (big_in _)) ?_))))
      refine Yld.bindE (Neg_y FF1 (big_in _)) (Yld.bindE (Quo_y FFb (one_in _ _) (big_in _)) (Yld.bindE (Neg_y FF1 (two_in _ _ _)) (Yld.bindE (Make_f (one_in _ _) (big_in _)) ?_)))
      refine Yld.bindE (Good_f (mkB_in _ _)) ?_
      change Yld ((gcall (!!(qF (dyL r n)).isSome) (ratio_Good_S FF (dyH r n))).bind fun x_14 => if (!(qF (dyL r n)).isSome || !x_14) = true then (ratio_Bad_S FF).bind fun x_15 => (ratio_Bad_S FF).bind fun x_16 => some (x_15, x_16) else some (dyL r n, dyH r n)) _
      cases h1 : (qF (dyL r n)).isSome with
      | false => exact Yld.g0 rfl (Yld.ift rfl (Yld.bindE Bad_f (Yld.bindE Bad_f (Yld.some rfl))))
      | true =>
        refine Yld.g1 rfl (Yld.bindE (Good_f (mkB_in _ _)) ?_)
        change Yld (if (!true || !(qF (dyH r n)).isSome) = true then (ratio_Bad_S FF).bind fun x_15 => (ratio_Bad_S FF).bind fun x_16 => some (x_15, x_16) else some (dyL r n, dyH r n)) _
        cases h2 : (qF (dyH r n)).isSome with
        | false => exact Yld.ift rfl (Yld.bindE Bad_f (Yld.bindE Bad_f (Yld.some rfl)))
        | true => exact Yld.iff rfl (Yld.some rfl)
theorem rDyadic_f {x : Frc} (hx : inF x) {k : Int} : r4_Dyadic_S FF x k = some ⟨(dyF x k).1, (dyF x k).2⟩ := by
  refine Yld.eq ?_
  unfold r4_Dyadic_S dyF
  refine Yld.bindE (rGood_f hx) ?_
  cases hq : qF x with
  | none => exact Yld.ift rfl (Yld.bindE rBad_f (Yld.bindE rBad_f (Yld.some rfl)))
  | some r =>
    obtain ⟨hf, rfl⟩ := qF_some hx hq
    dsimp only
    by_cases hk : k < 0 ∨ 256 < k
    · rw [if_pos hk]
      refine Yld.ift ?_ (Yld.bindE rBad_f (Yld.bindE rBad_f (Yld.some rfl)))
      rcases hk with h | h <;> simp [h]
    · rw [if_neg hk]
      refine Yld.iff (by have h1 : ¬ k < 0 := by omega
                         have h2 : ¬ 256 < k := by omega
                         simp [h1, h2]) ?_
      obtain ⟨n, rfl⟩ : ∃ n : Nat, k = n := ⟨k.toNat, by omega⟩
      rw [Int.toNat_natCast, mk_N, mk_D]
      have hn : n ≤ 256 := by omega
      refine Yld.bindE (rShift_n hf.1 hn) (Yld.bindE (rQuo_y FF2 (big_in _) (big_in _)) (Yld.bindE (rNeg_y FF2 (big_in _)) (Yld.bindE (rQuo_y FF2 (one_in _ _) (big_in _)) (Yld.bindE (rNeg_y FF2 (two_in _ _ _)) ?_))))
      refine Yld.bindE rone_y (Yld.bindE (rShift_n one_InM hn) (Yld.bindE (rMake_f (two_in _ _ _) (big_in _)) (Yld.bindE (rMake_f (one_in _ _) (big_in _)) ?_)))
      refine Yld.bindE (rGood_f (mkB_in _ _)) ?_
      change Yld ((gcall (!!(qF (dyL r n)).isSome) (r4_Good_S FF (dyH r n))).bind fun x_14 => if (!(qF (dyL r n)).isSome || !x_14) = true then (r4_Bad_S FF).bind fun x_15 => (r4_Bad_S FF).bind fun x_16 => some (⟨x_15, x_16⟩ : DPair) else some (⟨dyL r n, dyH r n⟩ : DPair)) _
      cases h1 : (qF (dyL r n)).isSome with
      | false => exact Yld.g0 rfl (Yld.ift rfl (Yld.bindE rBad_f (Yld.bindE rBad_f (Yld.some rfl))))
      | true =>
        refine Yld.g1 rfl (Yld.bindE (rGood_f (mkB_in _ _)) ?_)
        change Yld (if (!true || !(qF (dyH r n)).isSome) = true then (r4_Bad_S FF).bind fun x_15 => (r4_Bad_S FF).bind fun x_16 => some (⟨x_15, x_16⟩ : DPair) else some (⟨dyL r n, dyH r n⟩ : DPair)) _
        cases h2 : (qF (dyH r n)).isSome with
        | false => exact Yld.ift rfl (Yld.bindE rBad_f (Yld.bindE rBad_f (Yld.some rfl)))
        | true => exact Yld.iff rfl (Yld.some rfl)
end Go.Proofs.YtdjnlmmhbeeihaaGreatDoor

namespace Go.Proofs.YtdjnlmmhbeeihaaGreatDoor
open Go Go.Sk
set_option maxRecDepth 100000
theorem sanity_y : l4_sanity_S FF = some true := by
 unfold l4_sanity_S l4_text_S ratio_Text_S whole_Text_S
 simp only [itoa_S_K]
 decide +kernel
end Go.Proofs.YtdjnlmmhbeeihaaGreatDoor

namespace Go.Proofs.YtdjnlmmhbeeihaaGreatDoor
open Go Go.Sk
set_option linter.unusedSimpArgs false
set_option linter.unusedVariables false
theorem roundsAs_y {x : Frc} {k : Int} (hx : inF x) (hk : -9223372036854775808 ≤ k ∧ k ≤ 9223372036854775807) : l4_RatioRoundsAsSpecified_S FF x k = some true := by
 refine Yld.eq ?_
 unfold l4_RatioRoundsAsSpecified_S
 refine Yld.bindE (Dyadic_f hx) ?_
 generalize hp : dyF x k = p
 obtain ⟨lo, hi⟩ := p
 dsimp only [un2]
 refine Yld.bindE (rDyadic_f hx) ?_
 rw [hp]
 refine Yld.bindE sanity_y ?_
 refine Yld.g1 (by simp) (Yld.bindE (Floor_f hx) (Yld.g1 (by simp) (Yld.bindE (rFloor_f hx) ?_)))
 refine Yld.g1 (by simp) (Yld.bindE (Ceil_f hx) (Yld.g1 (by simp) (Yld.bindE (rCeil_f hx) ?_)))
 refine Yld.g1 (by simp) (Yld.bindE (Near_f hx) (Yld.g1 (by simp) (Yld.bindE (rNear_f hx) ?_)))
 exact Yld.g1 (by simp) (Yld.bindE (Sign_f hx) (Yld.g1 (by simp) (Yld.bindE (rSign_f hx) (Yld.some (by simp; try (cases qF x <;> rfl))))))
end Go.Proofs.YtdjnlmmhbeeihaaGreatDoor

namespace Go.Proofs.YtdjnlmmhbeeihaaGreatDoor
open Go Go.Sk
theorem in64_of {x : Int} {h : PH} {v : Value} (hx : (BV.one (.int .i64 x)).rel h (fun _ => .bool false) v) : -9223372036854775808 ≤ x ∧ x ≤ 9223372036854775807 := by
 have h1 : v = .int .i64 x ∧ inR .i64 x := hx
 exact inR_i64_iff.1 h1.2
end Go.Proofs.YtdjnlmmhbeeihaaGreatDoor

namespace Go.Sk
open Go
theorem int_mem_rel {h : PH} {cs : List CP} {L : List Value} {k : IntKind} {z : Int} (hr : cellsRel h cs L) (hm : CP.int k z ∈ cs) : inR k z := by
 obtain ⟨i, hi, he⟩ := List.getElem_of_mem hm
 obtain ⟨u, _, hu⟩ := All2.get hr i (.int k z) (by rw [List.getElem?_eq_getElem hi, he])
 exact hu.2
end Go.Sk
namespace Go.Proofs.YtdjnlmmhbeeihaaGreatDoor
open Go Go.Sk
theorem inD_of {w : A16} (H : ∀ z ∈ w.l, inR .u32 z) : inD 4294967296 w.l := fun i => by
 by_cases hi : i < w.l.length
 ·have h1 := H w.l[i] (List.getElem_mem hi)
  have e : dg w.l i = w.l[i] := by simp [dg, List.getD, List.getElem?_eq_getElem hi]
  rw [e]
  have h2 : 0 ≤ w.l[i] ∧ w.l[i] ≤ 4294967295 := by simpa [inR, IntKind.min, IntKind.max, IntKind.signed, IntKind.bits] using h1
  omega
 ·rw [dg_ge (by omega)]; decide
theorem inF_ints {x : Frc} (H : ∀ z, CP.int .u32 z ∈ eFrc x → inR .u32 z) : inF x := by
 refine ⟨inD_of fun z hz => H z ?_, inD_of fun z hz => H z ?_⟩
 ·unfold eFrc eBig
  exact List.mem_append_left _ (List.mem_cons_of_mem _ (List.mem_cons_of_mem _ (List.mem_map_of_mem hz)))
 ·unfold eFrc eBig
  exact List.mem_append_right _ (List.mem_cons_of_mem _ (List.mem_cons_of_mem _ (List.mem_map_of_mem hz)))
theorem inF_of {x : Frc} {h : PH} {v : Value} (hx : (BV.agg (eFrc x)).rel h (fun _ => .bool false) v) : inF x := by
 obtain ⟨cs, _, hr⟩ := hx
 exact inF_ints fun z hz => int_mem_rel hr hz
end Go.Proofs.YtdjnlmmhbeeihaaGreatDoor

namespace Go.Proofs.YtdjnlmmhbeeihaaGreatDoor
open Go Go.Sk
theorem roundsAs_law {mx : Int} (x : Frc) (k : Int) (hx : inF x) (hk : -9223372036854775808 ≤ k ∧ k ≤ 9223372036854775807) : Meets Tryz.prog (tabs mx) 4 [] [.agg (eFrc x), .one (.i k)] (Is [] (.b (.one (.bool true)))) :=
 l4_RatioRoundsAsSpecified_spec (roundsAs_y hx hk)
end Go.Proofs.YtdjnlmmhbeeihaaGreatDoor

