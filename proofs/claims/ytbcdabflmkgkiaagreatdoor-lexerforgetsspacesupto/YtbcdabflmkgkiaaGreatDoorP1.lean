/- the plain law -/
import Derived.Test.YtbcdabflmkgkiaaGreatDoorW3
namespace Go.Proofs.YtbcdabflmkgkiaaGreatDoor
open Go Go.Sk
set_option linter.unusedVariables false
set_option linter.unusedSimpArgs false
def isD (b : UInt8) : Bool := decide (48 ≤ b) && decide (b ≤ 57)
def isL (b : UInt8) : Bool := (decide (97 ≤ b) && decide (b ≤ 122)) || (decide (65 ≤ b) && decide (b ≤ 90))
def isN (b : UInt8) : Bool := isL b || isD b || decide (b = 95)
def isS (b : UInt8) : Bool := decide (b = 32) || decide (b = 9) || decide (b = 10) || decide (b = 13)
def isC (b : UInt8) : Bool := decide (b ≠ 10)
theorem bytes_all {p : UInt8 → Bool} (h : ∀ i : Fin 256, p (UInt8.ofNat i.val) = true) (x : UInt8) : p x = true := by
 have := h ⟨x.toNat, x.toNat_lt⟩
 simpa using this
theorem letter_ok (F : Nat) (x : UInt8) : lexer_letter_S F (x.toNat : Int) = some (isL x) := by
 have h : ∀ x : UInt8, decide (((decide (97 ≤ (ior .u8 (x.toNat : Int) 32)) && decide ((ior .u8 (x.toNat : Int) 32) ≤ 122)) && decide ((x.toNat : Int) < 128)) = isL x) = true := bytes_all (by decide +kernel)
 have h := of_decide_eq_true (h x)
 unfold lexer_letter_S letN
 show some (_ && _) = _
 rw [h]
theorem digit_ok (F : Nat) (x : UInt8) : lexer_digit_S F (x.toNat : Int) = some (isD x) := by
 have h : ∀ x : UInt8, decide ((decide (48 ≤ (x.toNat : Int)) && decide ((x.toNat : Int) ≤ 57)) = isD x) = true := bytes_all (by decide +kernel)
 have h := of_decide_eq_true (h x)
 unfold lexer_digit_S
 rw [h]
theorem toNat_eq (x : UInt8) (n : Nat) (hn : n < 256) : decide ((x.toNat : Int) = (n : Int)) = decide (x = UInt8.ofNat n) := by
 apply decide_eq_decide.2
 constructor
 ·intro h
  have : x.toNat = n := by omega
  rw [← this]; simp
 ·rintro rfl
  simp; omega
theorem fn_name (F : Nat) (x : UInt8) : byteFn_S F 94 (x.toNat : Int) = some (isN x) := by
 unfold byteFn_S lexer_scanner_name_1_S
 rw [if_pos rfl, letter_ok, digit_ok]
 have h := toNat_eq x 95 (by decide)
 simp only [Option.bind_some]
 cases hl : isL x <;> cases hd : isD x <;> simp [gcall, isN, hl, hd] <;> simpa using h
theorem fn_digit (F : Nat) (x : UInt8) : byteFn_S F 95 (x.toNat : Int) = some (isD x) := by
 unfold byteFn_S
 rw [if_neg (by decide), if_pos rfl, digit_ok]
theorem fn_space (F : Nat) (x : UInt8) : byteFn_S F 99 (x.toNat : Int) = some (isS x) := by
 unfold byteFn_S lexer_scanner_skip_1_S strings_IndexByte_S lite_IndexByte_S indexByte?
 rw [if_neg (by decide), if_neg (by decide), if_pos rfl]
 have h : ∀ x : UInt8, decide (decide (0 ≤ Lib.indexByte [32, 9, 10, 13] (x.toNat : Int).toNat.toUInt8) = isS x) = true := bytes_all (by decide +kernel)
 simpa using of_decide_eq_true (h x)
theorem fn_comment (F : Nat) (x : UInt8) : byteFn_S F 101 (x.toNat : Int) = some (isC x) := by
 unfold byteFn_S lexer_scanner_skip_2_S isC
 rw [if_neg (by decide), if_neg (by decide), if_neg (by decide), if_pos rfl]
 have h := toNat_eq x 10 (by decide)
 simpa using h
theorem drop_lt {s : Str} {k : Nat} {b : UInt8} {r : Str} (h : s.drop k = b :: r) : k < s.length := by
 have := congrArg List.length h
 simp at this; omega
theorem drop_succ {s : Str} {k : Nat} {b : UInt8} {r : Str} (h : s.drop k = b :: r) : s.drop (k + 1) = r := by
 have e : s.drop (k + 1) = (s.drop k).drop 1 := by rw [List.drop_drop]
 rw [e, h]; rfl
theorem drop_nil {s : Str} {k : Nat} (h : s.drop k = []) (hk : k ≤ s.length) : k = s.length := by
 have := congrArg List.length h
 simp at this; omega
theorem idx_drop {s : Str} {k : Nat} {b : UInt8} {r : Str} (h : s.drop k = b :: r) : idx? s (k : Int) = some b := by
 have hk := drop_lt h
 rw [idx?_eq (by omega) (by omega), idx_nat _ _ hk]
 have := List.drop_eq_getElem_cons hk
 rw [h] at this
 injection this with h1 h2
 rw [h1]
theorem wr {z : Int} (h1 : 0 ≤ z) (h2 : z ≤ 1000000000) : IntKind.i64.wrap z = z := wi64' (by omega) (by omega)
theorem wk (k : Nat) (h : k ≤ 100000000) : IntKind.i64.wrap ((k : Int) + 1) = ((k + 1 : Nat) : Int) := by rw [wr (by omega) (by omega)]; rfl
theorem drop_tw {s : Str} {k : Nat} (p : UInt8 → Bool) : s.drop (k + ((s.drop k).takeWhile p).length) = (s.drop k).dropWhile p := by
 rw [← List.drop_drop]
 generalize s.drop k = r
 induction r with
 | nil => rfl
 | cons b r ih =>
  by_cases hb : p b = true
  ·simp only [List.takeWhile_cons_of_pos hb, List.dropWhile_cons_of_pos hb, List.length_cons, List.drop_succ_cons]; exact ih
  ·simp only [List.takeWhile_cons_of_neg hb, List.dropWhile_cons_of_neg hb]; rfl
theorem tw_le (p : UInt8 → Bool) (r : Str) : (r.takeWhile p).length ≤ r.length := by
 induction r with
 | nil => simp
 | cons b r ih =>
  by_cases hb : p b = true
  ·simp only [List.takeWhile_cons_of_pos hb, List.length_cons]; omega
  ·simp only [List.takeWhile_cons_of_neg hb, List.length_nil]; omega
theorem tw_le' {s : Str} {k : Nat} (p : UInt8 → Bool) (hk : k ≤ s.length) : k + ((s.drop k).takeWhile p).length ≤ s.length := by
 have := tw_le p (s.drop k)
 rw [List.length_drop] at this; omega
theorem iter_yld {ι σ τ : Type} {body : σ → Option (σ ⊕ τ)} (st : ι → σ) (μ : ι → Nat) (I : ι → Prop) (Q : ι → τ → Prop)
  (step : ∀ k, I k → (∃ j, body (st k) = some (.inl (st j)) ∧ I j ∧ μ j < μ k ∧ ∀ t, Q j t → Q k t) ∨ ∃ t, body (st k) = some (.inr t) ∧ Q k t) :
  ∀ (G : Nat) (k : ι), I k → μ k < G → Yld (iter G body (st k)) (Q k) := by
 intro G
 induction G with
 | zero => intro k _ h; omega
 | succ G ih =>
  intro k hk hG
  rw [iter_succ]
  rcases step k hk with ⟨j, h, hI, hm, hq⟩ | ⟨t, h, hq⟩
  ·rw [h]
   exact (ih j hI (by omega)).mono hq
  ·rw [h]; exact ⟨t, rfl, hq⟩
theorem scan_iter {σ τ : Type} {body : σ → Option (σ ⊕ τ)} {s : Str} (p : UInt8 → Bool) (st : Nat → σ) (g : Nat → τ)
  (h1 : ∀ k b r, s.drop k = b :: r → p b = true → body (st k) = some (.inl (st (k + 1))))
  (h0 : ∀ k b r, s.drop k = b :: r → p b = false → body (st k) = some (.inr (g k)))
  (he : body (st s.length) = some (.inr (g s.length))) :
  ∀ (F k : Nat), k ≤ s.length → s.length - k < F → iter F body (st k) = some (g (k + ((s.drop k).takeWhile p).length)) := by
 intro F
 induction F with
 | zero => intro k _ h; omega
 | succ F ih =>
  intro k hk hF
  rw [iter_succ]
  cases hd : s.drop k with
  | nil =>
   have hk' := drop_nil hd hk
   subst hk'
   rw [he]; rfl
  | cons b r =>
   have hlt := drop_lt hd
   by_cases hb : p b = true
   ·rw [h1 k b r hd hb]
    show iter F body (st (k + 1)) = _
    rw [ih (k + 1) (by omega) (by omega), drop_succ hd, List.takeWhile_cons_of_pos hb, List.length_cons]
    congr 2; omega
   ·rw [h0 k b r hd (by simpa using hb), List.takeWhile_cons_of_neg hb]; rfl
theorem run_ok {F fn : Nat} {s : Str} {k : Nat} {p : UInt8 → Bool} (hp : ∀ x : UInt8, byteFn_S F fn (x.toNat : Int) = some (p x)) (hk : k ≤ s.length) (hF : s.length < F) (hs : s.length ≤ 100000000) :
  lexer_scanner_run_S F fn s (k : Int) = some (((((s.drop k).takeWhile p).length : Nat) : Int), s, ((k + ((s.drop k).takeWhile p).length : Nat) : Int)) := by
 unfold lexer_scanner_run_S
 rw [scan_iter (s := s) p (fun k => (⟨s, (k : Int)⟩ : Scan)) (fun k => (⟨s, (k : Int)⟩ : Scan)) ?_ ?_ ?_ F k hk (by omega)]
 ·have := tw_le' p hk
  generalize ((s.drop k).takeWhile p).length = n at *
  show some (IntKind.i64.wrap (((k + n : Nat) : Int) - (k : Int)), s, ((k + n : Nat) : Int)) = some ((n : Int), s, ((k + n : Nat) : Int))
  rw [show ((k + n : Nat) : Int) - (k : Int) = (n : Int) by omega, wr (by omega) (by omega)]
 ·intro k b r hd hb
  have hlt := drop_lt hd
  have e : decide ((k : Int) < (s.length : Int)) = true := by simpa using hlt
  simp only [e, gcall, if_true, idx_drop hd, Option.bind_some, hp, hb, Bool.and_self]
  rw [wk k (by omega)]
 ·intro k b r hd hb
  have hlt := drop_lt hd
  have e : decide ((k : Int) < (s.length : Int)) = true := by simpa using hlt
  simp only [e, gcall, if_true, idx_drop hd, Option.bind_some, hp, hb, Bool.and_false]
  rfl
 ·simp [gcall]
def pk : Str → Int
 | [] => 0
 | b :: _ => (b.toNat : Int)
theorem peek_ok (F : Nat) {s : Str} {k : Nat} (hk : k ≤ s.length) : lexer_scanner_peek_S F s (k : Int) = some (pk (s.drop k)) := by
 unfold lexer_scanner_peek_S
 cases hd : s.drop k with
 | nil =>
  have := drop_nil hd hk
  rw [if_pos (by simp; omega)]; rfl
 | cons b r =>
  have hlt := drop_lt hd
  rw [if_neg (by simp; omega), idx_drop hd]; rfl
def sk : Bool → Str → Str
 | _, [] => []
 | false, b :: r => if isS b then sk false r else if b = 35 then sk true r else b :: r
 | true, b :: r => if b = 10 then sk false r else sk true r
theorem sk_len : ∀ (r : Str) (c : Bool), (sk c r).length ≤ r.length
 | [], c => by cases c <;> simp [sk]
 | b :: r, false => by
  unfold sk
  have h1 := sk_len r false
  have h2 := sk_len r true
  split
  ·simp; omega
  ·split
   ·simp; omega
   ·simp
 | b :: r, true => by
  unfold sk
  have h1 := sk_len r false
  have h2 := sk_len r true
  split <;> simp <;> omega
theorem sk_sp (r : Str) : sk false (r.dropWhile isS) = sk false r := by
 induction r with
 | nil => rfl
 | cons b r ih =>
  by_cases hb : isS b = true
  ·rw [List.dropWhile_cons_of_pos hb, ih]
   show _ = sk false (b :: r)
   rw [sk, if_pos hb]
  ·rw [List.dropWhile_cons_of_neg hb]
theorem sk_cm (r : Str) : sk false (r.dropWhile isC) = sk true r := by
 induction r with
 | nil => rfl
 | cons b r ih =>
  by_cases hb : b = 10
  ·subst hb
   rw [List.dropWhile_cons_of_neg (by decide)]
   rw [sk, if_pos (by decide), sk, if_pos rfl]
  ·rw [List.dropWhile_cons_of_pos (by simpa [isC] using hb), ih]
   conv => rhs; rw [sk, if_neg hb]
theorem sk_cm' (r : Str) : sk false (35 :: r) = sk false ((35 :: r).dropWhile isC) := by
 rw [List.dropWhile_cons_of_pos (by decide), sk_cm, sk, if_neg (by decide), if_pos rfl]
theorem sk_drop : ∀ (r : Str) (c : Bool), sk c r = r.drop (r.length - (sk c r).length)
 | [], c => by cases c <;> rfl
 | b :: r, c => by
  have h1 := sk_drop r false
  have h2 := sk_drop r true
  have l1 := sk_len r false
  have l2 := sk_len r true
  have key : ∀ t : Str, t.length ≤ r.length → t = r.drop (r.length - t.length) → t = (b :: r).drop ((b :: r).length - t.length) := by
   intro t hl ht
   have e : (b :: r).length - t.length = (r.length - t.length) + 1 := by simp only [List.length_cons]; omega
   rw [e, List.drop_succ_cons]; exact ht
  cases c
  ·by_cases hb : isS b = true
   ·have e : sk false (b :: r) = sk false r := by rw [sk, if_pos hb]
    rw [e]; exact key _ l1 h1
   ·by_cases hc : b = 35
    ·have e : sk false (b :: r) = sk true r := by rw [sk, if_neg hb, if_pos hc]
     rw [e]; exact key _ l2 h2
    ·have e : sk false (b :: r) = b :: r := by rw [sk, if_neg hb, if_neg hc]
     rw [e]; simp
  ·by_cases hb : b = 10
   ·have e : sk true (b :: r) = sk false r := by rw [sk, if_pos hb]
    rw [e]; exact key _ l1 h1
   ·have e : sk true (b :: r) = sk true r := by rw [sk, if_neg hb]
    rw [e]; exact key _ l2 h2
def sp (s : Str) (k : Nat) : Nat := s.length - (sk false (s.drop k)).length
theorem sp_drop {s : Str} {k : Nat} (hk : k ≤ s.length) : s.drop (sp s k) = sk false (s.drop k) := by
 have h := sk_drop (s.drop k) false
 have hl := sk_len (s.drop k) false
 rw [List.length_drop] at h hl
 conv => rhs; rw [h]
 rw [List.drop_drop]
 congr 1
 unfold sp; omega
theorem sp_ge {s : Str} {k : Nat} (hk : k ≤ s.length) : k ≤ sp s k := by
 have hl := sk_len (s.drop k) false
 rw [List.length_drop] at hl
 unfold sp; omega
theorem sp_of {s : Str} {k j : Nat} (h : sk false (s.drop j) = sk false (s.drop k)) : sp s j = sp s k := by unfold sp; rw [h]
theorem sp_end {s : Str} {k : Nat} (hk : k ≤ s.length) (h : sk false (s.drop k) = s.drop k) : sp s k = k := by
 unfold sp; rw [h, List.length_drop]; omega
end Go.Proofs.YtbcdabflmkgkiaaGreatDoor

namespace Go.Proofs.YtbcdabflmkgkiaaGreatDoor
open Go Go.Sk
set_option linter.unusedVariables false
set_option linter.unusedSimpArgs false
theorem dw_head {p : UInt8 → Bool} : ∀ {r : Str} {b : UInt8} {q : Str}, r.dropWhile p = b :: q → p b = false
 | [], _, _, h => by cases h
 | a :: r, b, q, h => by
  by_cases ha : p a = true
  ·rw [List.dropWhile_cons_of_pos ha] at h; exact dw_head h
  ·rw [List.dropWhile_cons_of_neg ha] at h
   injection h with h1 h2
   subst h1; simpa using ha
theorem pk_35 {r : Str} : (pk r = 35) ↔ ∃ q, r = 35 :: q := by
 cases r with
 | nil => simp [pk]
 | cons b q =>
  constructor
  ·intro h
   have h' : (b.toNat : Int) = 35 := h
   refine ⟨q, ?_⟩
   have : b = 35 := by
    have h2 : b.toNat = 35 := by omega
    have := congrArg UInt8.ofNat h2
    simpa using this
   rw [this]
  ·rintro ⟨q', h⟩
   injection h with h1 h2
   subst h1; rfl
theorem sk_stop {r : Str} (h1 : ∀ b q, r = b :: q → isS b = false) (h2 : ∀ q, r ≠ 35 :: q) : sk false r = r := by
 cases r with
 | nil => rfl
 | cons b q =>
  rw [sk, if_neg (by rw [h1 b q rfl]; simp), if_neg]
  rintro rfl
  exact h2 q rfl
theorem skip_ok {F : Nat} {s : Str} {k : Nat} (hk : k ≤ s.length) (hF : s.length < F) (hs : s.length ≤ 100000000) :
  lexer_scanner_skip_S F s (k : Int) = some (s, ((sp s k : Nat) : Int)) := by
 unfold lexer_scanner_skip_S
 refine Yld.eq (Yld.bind (iter_yld (fun k : Nat => (⟨s, (k : Int)⟩ : Scan)) (fun k => s.length - k) (fun k => k ≤ s.length) (fun k t => t = ⟨s, ((sp s k : Nat) : Int)⟩) ?_ F k hk (by omega)) fun t ht => ?_)
 ·intro k hk
  have hr := run_ok (F := F) (fn_space F) hk hF hs
  have hd := drop_tw (s := s) (k := k) isS
  have hle := tw_le' (s := s) isS hk
  have hsk := sk_sp (s.drop k)
  have hhd := @dw_head isS (s.drop k)
  dsimp only
  rw [hr]
  generalize ((s.drop k).takeWhile isS).length = a at *
  generalize hr1 : (s.drop k).dropWhile isS = r1 at *
  simp only [Option.bind_some, un3]
  rw [peek_ok F hle, hd]
  by_cases hc : pk r1 = 35
  ·have hd2 := drop_tw (s := s) (k := k + a) isC
   have hle2 := tw_le' (s := s) isC hle
   obtain ⟨q, rfl⟩ := pk_35.1 hc
   have hpos : 0 < ((s.drop (k + a)).takeWhile isC).length := by
    rw [hd, List.takeWhile_cons_of_pos (by decide)]; simp
   refine .inl ⟨(k + a) + ((s.drop (k + a)).takeWhile isC).length, ?_, hle2, by omega, ?_⟩
   ·rw [run_ok (fn_comment F) hle hF hs]
    cases h0 : decide (0 < (a : Int)) <;> simp [gcall, hc]
   ·intro t ht
    rw [show sp s (k + a + ((s.drop (k + a)).takeWhile isC).length) = sp s k from sp_of (by rw [hd2, hd, ← sk_cm', hsk])] at ht
    exact ht
  ·have hc' : ∀ q, r1 ≠ 35 :: q := fun q h => hc (pk_35.2 ⟨q, h⟩)
   by_cases ha : 0 < a
   ·refine .inl ⟨k + a, ?_, hle, by omega, ?_⟩
    ·have e0 : decide (0 < (a : Int)) = true := by simpa using ha
     simp only [e0, gcall, Bool.not_true, Bool.true_or, if_true, Option.bind_some, hc, decide_false, Bool.false_eq_true, if_false]
    ·intro t ht
     rw [show sp s (k + a) = sp s k from sp_of (by rw [hd, hsk])] at ht
     exact ht
   ·refine .inr ⟨⟨s, (((k + a : Nat)) : Int)⟩, ?_, ?_⟩
    ·have e0 : decide (0 < (a : Int)) = false := by simpa using ha
     simp only [e0, gcall, Bool.not_false, if_true, Option.bind_some, hc, decide_false, Bool.or_self, Bool.false_eq_true, if_false]
    ·have : a = 0 := by omega
     subst this
     have hst : sk false r1 = r1 := sk_stop (fun b q h => hhd h) hc'
     rw [show sp s k = k + 0 from sp_end hk (by rw [← hsk, hst, ← hd]; rfl)]
 ·subst ht; exact Yld.some rfl
theorem b35 (x : UInt8) : decide ((x.toNat : Int) = 35) = decide (x = 35) := toNat_eq x 35 (by decide)
def isW (t : Str) : Bool := decide (t ∈ wordsT)
theorem bs_in (G : Nat) : wordsT.all (fun t => decide (lexer_Word_S (G + 100) t = some true)) = true := by kernel_rfl
theorem bs_out {F : Nat} (hF : 100 < F) {t : Str} (h : t ∉ wordsT) : lexer_Word_S F t = some false := by
 unfold lexer_Word_S slices_BinarySearch_S
 have hl : (wordsT.length : Int) = 36 := by decide
 rw [hl]
 refine Yld.eq (Yld.bind (P := fun o : Int × Bool => o.2 = false) (Yld.bind (P := fun i : Int => 0 ≤ i) (Yld.loop (fun s : Int × Int => 0 ≤ s.1 ∧ s.1 ≤ s.2 ∧ s.2 ≤ 36) (fun s => (s.2 - s.1).toNat) (by decide) (by show (36 : Int).toNat < F; have : (36 : Int).toNat = 36 := rfl; omega) ?_) fun i hi => ?_) ?_)
 ·rintro ⟨i, j⟩ ⟨h0, h1, h2⟩
  simp only at h0 h1 h2
  simp only [un2]
  refine Yld.ite (fun hc => ?_) (fun hc => Yld.some (.inr ⟨_, rfl, h0⟩))
  have hc := of_decide_eq_true hc
  have e1 : IntKind.i64.wrap (i + j) = i + j := wr (by omega) (by omega)
  have e2 : IntKind.u64.wrap (i + j) = i + j := by rw [wu64]; omega
  have e3 : IntKind.i64.wrap ((i + j) / 2) = (i + j) / 2 := wr (by omega) (by omega)
  rw [e1, e2]
  refine Yld.ln ?_
  rw [e3]
  refine Yld.idx (by omega) (by rw [hl]; omega) ?_
  unfold cmp_Less_S cmp_isNaN_S
  rw [Option.bind_some]
  have e4 : decide (idx wordsT ((i + j) / 2) ≠ idx wordsT ((i + j) / 2)) = false := by simp
  rw [e4]
  refine Yld.bindE (x := Op.bytesLess (idx wordsT ((i + j) / 2)) t) (by simp [gcall]) ?_
  refine Yld.ite (fun _ => Yld.ln (Yld.some (.inl ⟨_, rfl, ?_, ?_⟩))) (fun _ => Yld.some (.inl ⟨_, rfl, ?_, ?_⟩))
  ·rw [wr (by omega) (by omega)]; simp only; omega
  ·rw [wr (by omega) (by omega)]; simp only; omega
  ·simp only; omega
  ·simp only; omega
 ·by_cases hc : i < 36
  ·have e0 : decide (i < 36) = true := by simpa using hc
   have e1 : decide (idx wordsT i = t) = false := by
    have hm : idx wordsT i ∈ wordsT := by
     have := idx_eq (xs := wordsT) hi (by rw [hl]; exact hc)
     exact List.mem_of_getElem? this
    simp only [decide_eq_false_iff_not]
    intro e; exact h (e ▸ hm)
   rw [e0]
   refine Yld.g1 rfl (Yld.idx hi (by rw [hl]; exact hc) ?_)
   rw [e1]
   refine Yld.g1 rfl (Yld.idx hi (by rw [hl]; exact hc) ?_)
   unfold slices_isNaN_S
   simp only [Bool.not_false, Bool.and_self, gcall, if_true, Option.bind_some, letN]
   have e4 : decide (idx wordsT i ≠ idx wordsT i) = false := by simp
   rw [e4]
   exact Yld.some rfl
  ·have e0 : decide (i < 36) = false := by simpa using hc
   rw [e0]
   simp only [Bool.false_and, gcall, Bool.false_eq_true, if_false, Option.bind_some, letN]
   exact Yld.some rfl
 ·rintro ⟨i, b⟩ hb
  simp only at hb
  subst hb
  exact Yld.some rfl
theorem word_ok {F : Nat} (hF : 100 < F) (t : Str) : lexer_Word_S F t = some (isW t) := by
 by_cases h : t ∈ wordsT
 ·obtain ⟨G, rfl⟩ : ∃ G, F = G + 100 := ⟨F - 100, by omega⟩
  have := of_decide_eq_true (List.all_eq_true.1 (bs_in G) t h)
  rw [this, isW, decide_eq_true h]
 ·rw [bs_out hF h, isW, decide_eq_false h]
end Go.Proofs.YtbcdabflmkgkiaaGreatDoor

namespace Go.Proofs.YtbcdabflmkgkiaaGreatDoor
open Go Go.Sk
set_option linter.unusedVariables false
set_option linter.unusedSimpArgs false
inductive Tk where
 | bad (e : Int)
 | got (k : Int) (t : Str) (n : Nat)
def nameT (r : Str) : Tk := if 32 < (r.takeWhile isN).length then .bad 2 else .got (if isW (r.takeWhile isN) then 1 else 2) (r.takeWhile isN) (r.takeWhile isN).length
def numL (r : Str) : Nat × Nat := match r.dropWhile isD with
 | 46 :: d :: q => if isD d then ((r.takeWhile isD).length + 1 + ((d :: q).takeWhile isD).length, (r.takeWhile isD).length + ((d :: q).takeWhile isD).length) else ((r.takeWhile isD).length, (r.takeWhile isD).length)
 | _ => ((r.takeWhile isD).length, (r.takeWhile isD).length)
def hL : Str → Bool
 | [] => false
 | b :: _ => isL b
def lu (r : Str) : Bool := hL r || decide (pk r = 95)
def zero2 (r : Str) : Bool := decide (1 < (r.takeWhile isD).length) && decide (pk r = 48)
def numT (r : Str) : Tk := if 40 < (numL r).2 then .bad 2 else if zero2 r || lu (r.drop (numL r).1) then .bad 281 else .got 3 (r.take (numL r).1) (numL r).1
def textG : Str → Option (Str × Nat)
 | [] => none
 | [b] => if b = 34 then some ([], 1) else none
 | b :: c :: q => if b = 34 then some ([], 1) else if b = 92 then (if c = 34 ∨ c = 92 then (textG q).map fun z => (c :: z.1, z.2 + 2) else none) else if 32 ≤ b ∧ b ≤ 126 then (textG (c :: q)).map fun z => (b :: z.1, z.2 + 1) else none
def textT (r : Str) : Tk := match textG (r.drop 1) with
 | none => .bad 280
 | some z => if 80 < z.1.length then .bad 2 else .got 4 z.1 (z.2 + 1)
def signT (r : Str) : Tk := match signsT.find? (fun g => g.isPrefixOf r) with
 | none => .bad 280
 | some g => .got 5 g g.length
def tok (r : Str) : Tk := match r with
 | [] => .bad 280
 | b :: _ => if isL b then nameT r else if isD b then numT r else if b = 34 then textT r else signT r
def Tk.res (s : Str) (k : Nat) : Tk → (Token × Bool × Str × Int) ⊕ Problem
 | .bad e => .inr ⟨(k : Int), e⟩
 | .got kd t n => .inl (⟨kd, (k : Int), t⟩, true, s, ((k + n : Nat) : Int))
theorem sub_at {s : Str} {k n : Nat} (h : k + n ≤ s.length) : sub? s (k : Int) ((k + n : Nat) : Int) = some ((s.drop k).take n) := by
 unfold sub?
 rw [if_pos ⟨by omega, by omega, by omega⟩]
 congr 1
 simp only [Int.toNat_natCast]
 rw [List.drop_take]
 congr 1
 omega
theorem take_tw (p : UInt8 → Bool) (r : Str) : r.take (r.takeWhile p).length = r.takeWhile p := by
 induction r with
 | nil => rfl
 | cons b r ih =>
  by_cases hb : p b = true
  ·rw [List.takeWhile_cons_of_pos hb, List.length_cons, List.take_succ_cons, ih]
  ·rw [List.takeWhile_cons_of_neg hb]; rfl
theorem pk_cons (b : UInt8) (r : Str) : pk (b :: r) = (b.toNat : Int) := rfl
theorem letter_pk (F : Nat) (r : Str) : lexer_letter_S F (pk r) = some (hL r) := by
 cases r with
 | nil => exact letter_ok F 0
 | cons b r => exact letter_ok F b
theorem pk_95 (r : Str) : decide (pk r = 95) = match r with | [] => false | b :: _ => decide (b = 95) := by
 cases r with
 | nil => rfl
 | cons b r => exact toNat_eq b 95 (by decide)
theorem pk_34 (r : Str) : decide (pk r = 34) = match r with | [] => false | b :: _ => decide (b = 34) := by
 cases r with
 | nil => rfl
 | cons b r => exact toNat_eq b 34 (by decide)
theorem pk_46 (r : Str) : decide (pk r = 46) = match r with | [] => false | b :: _ => decide (b = 46) := by
 cases r with
 | nil => rfl
 | cons b r => exact toNat_eq b 46 (by decide)
theorem name_no {F : Nat} {s : Str} {k : Nat} {b : UInt8} {q : Str} (hd : s.drop k = b :: q) (hb : isL b = false) : lexer_scanner_name_S F s (k : Int) = some (.inl (⟨0, 0, []⟩, false, s, (k : Int))) := by
 have hk := drop_lt hd
 unfold lexer_scanner_name_S
 rw [peek_ok F (by omega), Option.bind_some, letter_pk, hd, Option.bind_some]
 simp only [hL, hb, Bool.not_false, if_true]
theorem name_ok {F : Nat} {s : Str} {k : Nat} {b : UInt8} {q : Str} (hd : s.drop k = b :: q) (hb : isL b = true) (hF : s.length < F) (hF2 : 100 < F) (hs : s.length ≤ 100000000) : lexer_scanner_name_S F s (k : Int) = some ((nameT (s.drop k)).res s k) := by
 have hk := drop_lt hd
 unfold lexer_scanner_name_S
 rw [peek_ok F (by omega), Option.bind_some, letter_pk, hd, Option.bind_some]
 simp only [hL, hb, Bool.not_true, Bool.false_eq_true, if_false]
 rw [run_ok (fn_name F) (by omega) hF hs, Option.bind_some]
 have hle := tw_le' (s := s) isN (Nat.le_of_lt hk)
 have htk := take_tw isN (s.drop k)
 rw [← hd]
 unfold nameT
 generalize hn : ((s.drop k).takeWhile isN).length = n at *
 simp only [un3]
 by_cases h32 : 32 < n
 ·rw [if_pos h32, if_pos (by simp; omega)]; rfl
 ·rw [if_neg h32, if_neg (by simp; omega)]
  simp only [Option.bind_some, alt2]
  rw [sub_at hle, Option.bind_some, htk, word_ok hF2, Option.bind_some]
  cases isW ((s.drop k).takeWhile isN) <;> rfl
theorem numL_le (r : Str) : (numL r).1 ≤ r.length := by
 have h1 := tw_le isD r
 have h2 : (r.takeWhile isD).length + (r.dropWhile isD).length = r.length := by
  conv => rhs; rw [← List.takeWhile_append_dropWhile (p := isD) (l := r), List.length_append]
 unfold numL
 split
 ·next d q h =>
  rw [h] at h2
  have h3 := tw_le isD (d :: q)
  split
  ·simp only [List.length_cons] at *; omega
  ·simp only; omega
 ·simp only; omega
theorem numL_dot {r : Str} {d : UInt8} {q : Str} (h : r.dropWhile isD = 46 :: d :: q) (hd : isD d = true) : numL r = ((r.takeWhile isD).length + 1 + ((d :: q).takeWhile isD).length, (r.takeWhile isD).length + ((d :: q).takeWhile isD).length) := by
 unfold numL
 rw [h]
 simp only [hd, if_true]
theorem numL_no {r : Str} (h : ∀ d q, r.dropWhile isD = 46 :: d :: q → isD d = false) : numL r = ((r.takeWhile isD).length, (r.takeWhile isD).length) := by
 unfold numL
 split
 ·next d q e => rw [h d q e]; rfl
 ·rfl
theorem number_no {F : Nat} {s : Str} {k : Nat} {b : UInt8} {q : Str} (hd : s.drop k = b :: q) (hb : isD b = false) (hF : s.length < F) (hs : s.length ≤ 100000000) : lexer_scanner_number_S F s (k : Int) = some (.inl (⟨0, 0, []⟩, false, s, (k : Int))) := by
 have hk := drop_lt hd
 unfold lexer_scanner_number_S
 rw [run_ok (fn_digit F) (by omega) hF hs, Option.bind_some, hd, List.takeWhile_cons_of_neg (by simp [hb])]
 rfl
end Go.Proofs.YtbcdabflmkgkiaaGreatDoor

namespace Go.Proofs.YtbcdabflmkgkiaaGreatDoor
open Go Go.Sk
set_option linter.unusedVariables false
set_option linter.unusedSimpArgs false
theorem number_ok {F : Nat} {s : Str} {k : Nat} {b : UInt8} {q : Str} (hd : s.drop k = b :: q) (hb : isD b = true) (hF : s.length < F) (hs : s.length ≤ 100000000) : lexer_scanner_number_S F s (k : Int) = some ((numT (s.drop k)).res s k) := by
 have hk := drop_lt hd
 unfold lexer_scanner_number_S
 rw [run_ok (fn_digit F) (by omega) hF hs, Option.bind_some]
 have hle := tw_le' (s := s) isD (Nat.le_of_lt hk)
 have hdt := drop_tw (s := s) (k := k) isD
 have hnl := numL_le (s.drop k)
 rw [List.length_drop] at hnl
 have ha : 0 < ((s.drop k).takeWhile isD).length := by rw [hd, List.takeWhile_cons_of_pos hb]; simp
 have hz : zero2 (s.drop k) = (decide (1 < ((s.drop k).takeWhile isD).length) && decide ((b.toNat : Int) = 48)) := by unfold zero2; rw [hd]; rfl
 have hdot := @numL_dot (s.drop k)
 have hno := @numL_no (s.drop k)
 generalize hA : ((s.drop k).takeWhile isD).length = a at *
 simp only [un3]
 rw [if_neg (by simp; omega)]
 refine Yld.eq (Yld.bind (P := fun o : Scan × Int => o = (⟨s, ((k + (numL (s.drop k)).1 : Nat) : Int)⟩, ((numL (s.drop k)).2 : Int) - (a : Int)) ∧ (numL (s.drop k)).2 ≤ s.length) ?_ ?_)
 ·rw [peek_ok F hle, hdt, Option.bind_some, pk_46]
  cases h1 : (s.drop k).dropWhile isD with
  | nil =>
   rw [hno (by rw [h1]; intro d q h; cases h)]
   simp only [Bool.false_and, gcall, Bool.false_eq_true, if_false, Option.bind_some]
   exact Yld.some ⟨by simp, by show a ≤ s.length; omega⟩
  | cons c r1 =>
   rw [h1] at hdt
   have hlt := drop_lt hdt
   have hds := drop_succ hdt
   simp only
   by_cases hc : c = 46
   ·subst hc
    cases r1 with
    | nil =>
     have hend : k + a + 1 = s.length := drop_nil hds (by omega)
     rw [hno (by rw [h1]; intro d q h; cases h)]
     have e1 : decide (IntKind.i64.wrap (((k + a : Nat) : Int) + 1) < (s.length : Int)) = false := by rw [wk (k + a) (by omega)]; simp; omega
     simp only [e1, Bool.and_false, gcall, Bool.false_eq_true, if_false, Option.bind_some]
     exact Yld.some ⟨by simp, by show a ≤ s.length; omega⟩
    | cons d q1 =>
     have hlt2 := drop_lt hds
     have e1 : decide (((k + a + 1 : Nat) : Int) < (s.length : Int)) = true := decide_eq_true (by omega)
     have e2 := idx_drop hds
     simp only [wk (k + a) (by omega), e1, e2, decide_true, Bool.and_self, gcall, if_true, Option.bind_some, digit_ok, Bool.true_and]
     by_cases hg : isD d = true
     ·rw [hdot (d := d) (q := q1) (by rw [h1]) hg, hg, if_pos rfl, run_ok (fn_digit F) (by omega) hF hs, Option.bind_some, hds]
      have h5 := tw_le' (s := s) (k := k + a + 1) isD (by omega)
      rw [hds] at h5
      generalize ((d :: q1).takeWhile isD).length = m at *
      refine Yld.some ⟨?_, by show a + m ≤ s.length; omega⟩
      show ((⟨s, ((k + a + 1 + m : Nat) : Int)⟩ : Scan), (m : Int)) = (⟨s, ((k + (a + 1 + m) : Nat) : Int)⟩, ((a + m : Nat) : Int) - (a : Int))
      rw [show k + (a + 1 + m) = k + a + 1 + m by omega, show ((a + m : Nat) : Int) - (a : Int) = (m : Int) by omega]
     ·have hg' : isD d = false := by simpa using hg
      rw [hno (by rw [h1]; intro d' q' h; injection h with _ h; injection h with h _; rw [← h]; exact hg')]
      simp only [hg', Bool.and_false, Bool.false_eq_true, if_false]
      exact Yld.some ⟨by simp, by show a ≤ s.length; omega⟩
   ·have e0 : decide (c = 46) = false := by simpa using hc
    rw [hno (by rw [h1]; intro d q h; injection h with h _; exact absurd h hc)]
    simp only [e0, Bool.false_and, gcall, Bool.false_eq_true, if_false, Option.bind_some]
    exact Yld.some ⟨by simp, by show a ≤ s.length; omega⟩
 ·rintro o ⟨rfl, hc⟩
  simp only [un2]
  unfold numT
  have hle2 : k + (numL (s.drop k)).1 ≤ s.length := by omega
  have hu := letter_pk F (s.drop (k + (numL (s.drop k)).1))
  rw [← List.drop_drop] at hu
  have hp := peek_ok F hle2
  rw [← List.drop_drop] at hp
  have hsub := sub_at hle2
  rw [hz]
  generalize numL (s.drop k) = nc at *
  obtain ⟨n, c⟩ := nc
  simp only at *
  rw [show (a : Int) + ((c : Int) - (a : Int)) = (c : Int) by omega, wr (by omega) (by omega)]
  by_cases h40 : 40 < c
  ·rw [if_pos h40, if_pos (by simp; omega)]
   exact Yld.some rfl
  ·rw [if_neg h40, if_neg (by simp; omega)]
   have hi := idx_drop hd
   have e0 : decide ((1 : Int) < (a : Int)) = decide (1 < a) := by rw [decide_eq_decide]; omega
   simp only [hi, hp, hsub, e0, lu]
   rcases Bool.eq_false_or_eq_true (decide (1 < a)) with hA | hA <;> rcases Bool.eq_false_or_eq_true (hL ((s.drop k).drop n)) with hl | hl <;> rcases Bool.eq_false_or_eq_true (decide (pk ((s.drop k).drop n) = 95)) with hU | hU <;> rcases Bool.eq_false_or_eq_true (decide ((b.toNat : Int) = 48)) with hB | hB <;> simp only [gcall, hA, Bool.not_true, Bool.not_false, Bool.true_and, Bool.false_and, Bool.and_true, Bool.and_false, Bool.or_true, Bool.or_false, Bool.true_or, Bool.false_or, if_true, Bool.false_eq_true, if_false, Option.bind_some, hB, hu, hl, hU, letN, hsub, alt2, lexer_scanner_fail_S] <;> exact Yld.some rfl
end Go.Proofs.YtbcdabflmkgkiaaGreatDoor

namespace Go.Proofs.YtbcdabflmkgkiaaGreatDoor
open Go Go.Sk
set_option linter.unusedVariables false
set_option linter.unusedSimpArgs false
end Go.Proofs.YtbcdabflmkgkiaaGreatDoor

namespace Go.Proofs.YtbcdabflmkgkiaaGreatDoor
open Go Go.Sk
set_option linter.unusedVariables false
set_option linter.unusedSimpArgs false
def inT (b : UInt8) : Bool := decide (32 ≤ b) && decide (b ≤ 126)
theorem inT_ok (b : UInt8) : (decide ((b.toNat : Int) < 32) || decide (126 < (b.toNat : Int))) = !inT b := by
 have h : ∀ b : UInt8, decide ((decide ((b.toNat : Int) < 32) || decide (126 < (b.toNat : Int))) = !inT b) = true := bytes_all (by decide +kernel)
 exact of_decide_eq_true (h b)
theorem textG_cons (b : UInt8) (r : Str) : textG (b :: r) = if b = 34 then some ([], 1) else if b = 92 then (match r with | [] => none | c :: q => if c = 34 ∨ c = 92 then (textG q).map fun z => (c :: z.1, z.2 + 2) else none) else if inT b = true then (textG r).map fun z => (b :: z.1, z.2 + 1) else none := by
 cases r with
 | nil =>
  by_cases h1 : b = 34
  ·simp [textG, h1]
  ·by_cases h2 : b = 92
   ·simp [textG, h2]
   ·by_cases h3 : inT b = true <;> simp [textG, h1, h2, h3]
 | cons c q =>
  rw [textG]
  simp only [inT, Bool.and_eq_true, decide_eq_true_eq]
theorem textG_pos : ∀ (r : Str) (z : Str × Nat), textG r = some z → 1 ≤ z.2 ∧ z.2 ≤ r.length ∧ z.1.length < z.2
 | [], z, h => by cases h
 | [b], z, h => by
  rw [textG] at h
  split at h
  ·cases h; simp
  ·cases h
 | b :: c :: q, z, h => by
  rw [textG_cons] at h
  have h1 := textG_pos q
  have h2 := textG_pos (c :: q)
  split at h
  ·cases h; simp
  ·split at h
   ·simp only at h
    split at h
    ·obtain ⟨y, hy, rfl⟩ := Option.map_eq_some_iff.1 h
     have := h1 y hy
     simp only [List.length_cons] at *
     omega
    ·cases h
   ·split at h
    ·obtain ⟨y, hy, rfl⟩ := Option.map_eq_some_iff.1 h
     have := h2 y hy
     simp only [List.length_cons] at *
     omega
    ·cases h
theorem toStr_of (t : Str) : toStr (ofStr t) = t := by
 unfold toStr ofStr
 rw [List.map_map]
 conv => rhs; rw [← List.map_id t]
 congr 1
 funext c
 show UInt8.ofNat (c.toNat : Int).toNat = c
 simp
theorem text_no {F : Nat} {s : Str} {k : Nat} {b : UInt8} {q : Str} (hd : s.drop k = b :: q) (hb : b ≠ 34) : lexer_scanner_text_S F s (k : Int) = some (.inl (⟨0, 0, []⟩, false, s, (k : Int))) := by
 have hk := drop_lt hd
 unfold lexer_scanner_text_S
 rw [peek_ok F (by omega), Option.bind_some, hd]
 have h34 : decide (pk (b :: q) = 34) = decide (b = 34) := pk_34 (b :: q)
 rw [if_pos]
 rw [decide_not, h34]; simp [hb]
theorem text_ok {F : Nat} {s : Str} {k : Nat} {q : Str} (hd : s.drop k = 34 :: q) (hF : s.length < F) (hs : s.length ≤ 100000000) : lexer_scanner_text_S F s (k : Int) = some ((textT (s.drop k)).res s k) := by
 have hk := drop_lt hd
 unfold lexer_scanner_text_S
 rw [peek_ok F (by omega), Option.bind_some, hd]
 rw [if_neg (by simp [pk]), wk k (by omega)]
 have hds := drop_succ hd
 refine Yld.eq (Yld.bind (iter_yld (ι := Nat × List Int) (fun j => ((⟨s, (j.1 : Int)⟩ : Scan), j.2)) (fun j => s.length - j.1) (fun j => j.1 ≤ s.length ∧ j.2.length ≤ j.1)
  (fun j t => match textG (s.drop j.1) with | none => t = .inr (.inr (⟨(k : Int), 280⟩ : Problem)) | some z => ∃ i : Nat, i + 1 = j.1 + z.2 ∧ t = .inl (⟨s, (i : Int)⟩, j.2 ++ ofStr z.1)) ?_ F (k + 1, []) ⟨by simp only; omega, by simp⟩ (by simp only; omega)) fun t ht => ?_)
 ·rintro ⟨j, out⟩ ⟨hj, ho⟩
  simp only at hj ho
  simp only [un2]
  rw [peek_ok F hj, Option.bind_some]
  cases hr : s.drop j with
  | nil =>
   rw [if_pos (by decide)]
   refine .inr ⟨_, ?_, rfl⟩
   simp only [Option.bind_some, pk, lexer_scanner_fail_S, alt2]
   rfl
  | cons b r =>
   have hlt := drop_lt hr
   have hrs := drop_succ hr
   have h34 : decide (pk (b :: r) = 34) = decide (b = 34) := pk_34 (b :: r)
   have h92 : decide (pk (b :: r) = 92) = decide (b = 92) := toNat_eq b 92 (by decide)
   by_cases hb : b = 34
   ·subst hb
    rw [if_neg (by simp [pk])]
    refine .inr ⟨_, rfl, ?_⟩
    rw [textG_cons, if_pos rfl]
    exact ⟨j, rfl, by simp [ofStr]⟩
   ·rw [if_pos (by rw [decide_not, h34]; simp [hb])]
    simp only [Option.bind_some]
    by_cases hc : b = 92
    ·subst hc
     rw [if_pos (by simp [pk]), wk j (by omega), peek_ok F (by omega), hrs, Option.bind_some]
     cases hq : r with
     | nil =>
      refine .inr ⟨.inr (.inr (⟨(k : Int), 280⟩ : Problem)), ?_, ?_⟩
      ·rw [if_pos (by decide)]
       simp only [Option.bind_some, lexer_scanner_fail_S, alt2]
      ·rw [textG_cons, if_neg (by decide), if_pos rfl]
     | cons c q1 =>
      have hrs' := hrs
      rw [hq] at hrs'
      have hlt2 := drop_lt hrs'
      have c34 : decide (pk (c :: q1) = 34) = decide (c = 34) := pk_34 (c :: q1)
      have c92 : decide (pk (c :: q1) = 92) = decide (c = 92) := toNat_eq c 92 (by decide)
      by_cases hcc : c = 34 ∨ c = 92
      ·have hin : (decide ((pk (c :: q1)) < 32) || decide (126 < (pk (c :: q1)))) = false := by
        rw [pk_cons, inT_ok]
        rcases hcc with rfl | rfl <;> rfl
       refine .inl ⟨(j + 2, out ++ [(c.toNat : Int)]), ?_, ⟨by simp only; omega, by simp; omega⟩, by simp only; omega, ?_⟩
       ·rw [if_neg]
        ·simp only [Option.bind_some, alt2, un2, hin]
         rw [if_neg (by decide)]
         simp only [Option.bind_some]
         rw [app?_eq (by simp only [List.length_cons, List.length_nil]; omega)]
         simp only [Option.bind_some, pk_cons, alt2, un2]
         rw [wk (j + 1) (by omega)]
        ·rw [decide_not, decide_not, c34, c92]
         rcases hcc with rfl | rfl <;> decide
       ·intro t ht
        simp only at ht ⊢
        rw [show j + 2 = j + 1 + 1 from rfl, drop_succ hrs'] at ht
        rw [textG_cons, if_neg (by decide), if_pos rfl]
        simp only [if_pos hcc]
        cases hg : textG q1 with
        | none => rw [hg] at ht; exact ht
        | some z =>
         rw [hg] at ht
         obtain ⟨i, hi, ht⟩ := ht
         exact ⟨i, by simp only; omega, by rw [ht]; simp [ofStr]⟩
      ·refine .inr ⟨.inr (.inr (⟨(k : Int), 280⟩ : Problem)), ?_, ?_⟩
       ·rw [if_pos]
        ·simp only [Option.bind_some, lexer_scanner_fail_S, alt2]
        ·rw [decide_not, decide_not, c34, c92]
         simpa using hcc
       ·rw [textG_cons, if_neg (by decide), if_pos rfl]
        simp only [if_neg hcc]
    ·rw [if_neg (by rw [h92]; simpa using hc)]
     simp only [Option.bind_some, alt2, un2]
     by_cases hin : inT b = true
     ·have hin' : (decide ((pk (b :: r)) < 32) || decide (126 < (pk (b :: r)))) = false := by
       rw [pk_cons, inT_ok, hin]; rfl
      refine .inl ⟨(j + 1, out ++ [(b.toNat : Int)]), ?_, ⟨by simp only; omega, by simp; omega⟩, by simp only; omega, ?_⟩
      ·rw [hin', if_neg (by decide)]
       simp only [Option.bind_some]
       rw [app?_eq (by simp only [List.length_cons, List.length_nil]; omega)]
       simp only [Option.bind_some, pk_cons, alt2, un2]
       rw [wk j (by omega)]
      ·intro t ht
       simp only at ht ⊢
       rw [hrs] at ht
       rw [textG_cons, if_neg hb, if_neg hc, if_pos hin]
       cases hg : textG r with
       | none => rw [hg] at ht; exact ht
       | some z =>
        rw [hg] at ht
        obtain ⟨i, hi, ht⟩ := ht
        exact ⟨i, by simp only; omega, by rw [ht]; simp [ofStr]⟩
     ·have hin' : (decide ((pk (b :: r)) < 32) || decide (126 < (pk (b :: r)))) = true := by
       rw [pk_cons, inT_ok]; simpa using hin
      refine .inr ⟨.inr (.inr (⟨(k : Int), 280⟩ : Problem)), ?_, ?_⟩
      ·rw [hin', if_pos rfl]
       simp only [Option.bind_some, lexer_scanner_fail_S, alt2]
      ·rw [textG_cons, if_neg hb, if_neg hc, if_neg hin]
 ·simp only at ht
  rw [hds] at ht
  unfold textT
  simp only [List.drop_succ_cons, List.drop_zero]
  cases hg : textG q with
  | none =>
   rw [hg] at ht
   subst ht
   exact Yld.some rfl
  | some z =>
   rw [hg] at ht
   obtain ⟨i, hi, rfl⟩ := ht
   have hp := textG_pos q z hg
   have hql : q.length + (k + 1) = s.length := by
    have := congrArg List.length hds
    rw [List.length_drop] at this; omega
   have e0 : (([] : List Int) ++ ofStr z.1) = ofStr z.1 := rfl
   have e1 : (ofStr z.1).length = z.1.length := by simp [ofStr]
   simp only [alt2, un2]
   rw [e0, e1]
   by_cases h80 : 80 < z.1.length
   ·rw [if_pos h80, if_pos (decide_eq_true (by omega))]
    exact Yld.some rfl
   ·rw [if_neg h80, if_neg (by simp; omega)]
    simp only [Option.bind_some]
    rw [toStr_of, wk i (by omega)]
    refine Yld.some ?_
    show _ = Sum.inl _
    rw [show i + 1 = k + (z.2 + 1) by omega]
end Go.Proofs.YtbcdabflmkgkiaaGreatDoor

namespace Go.Proofs.YtbcdabflmkgkiaaGreatDoor
open Go Go.Sk
set_option linter.unusedVariables false
set_option linter.unusedSimpArgs false
theorem first_yld {l : List Str} {c : Str → Bool} {υ : Type} {Q : Unit ⊕ υ → Prop} {F : Nat} {A : Int → Option (Int ⊕ (Unit ⊕ υ))} (hF : l.length < F) (hL : l.length ≤ 100000000)
  (h1 : l.find? c = none → Q (.inl ())) (h0 : ∀ (i : Int) x, idx? l i = some x → c x = false → A i = some (.inl (IntKind.i64.wrap (i + 1))))
  (h2 : ∀ (i : Int) x, idx? l i = some x → 0 ≤ i → c x = true → l.find? c = some x → Yld (A i) fun o => ∃ t, o = .inr t ∧ Q t) :
  Yld (iter F (fun i => if decide (i < (l.length : Int)) = true then A i else some (.inr (.inl ()))) 0) Q := by
 refine Yld.ea1 (fun pre => pre.find? c = none) hF (by omega) rfl (fun pre x post e hx hI => ?_) (fun h => h1 h)
 by_cases hc : c x = true
 ·refine (h2 _ x hx (by omega) hc ?_).mono fun o ho => .inr ho
  rw [e, List.find?_append, hI, List.find?_cons, hc]; rfl
 ·have hc' : c x = false := by simpa using hc
  rw [h0 _ x hx hc']
  refine Yld.some (.inl ⟨rfl, ?_⟩)
  rw [List.find?_append, hI, List.find?_cons, hc']; rfl
theorem sign_ok {F : Nat} {s : Str} {k : Nat} (hk : k ≤ s.length) (hF : 100 < F) (hs : s.length ≤ 100000000) : lexer_scanner_sign_S F s (k : Int) = some (match signT (s.drop k) with | .bad e => .inr ⟨(k : Int), e⟩ | .got kd t n => .inl (⟨kd, (k : Int), t⟩, true, ((k + n : Nat) : Int))) := by
 unfold lexer_scanner_sign_S slices_IndexFunc_S
 have hl : signsT.length = 25 := rfl
 have hs2 : ∀ g ∈ signsT, g.length ≤ 2 := by decide
 refine Yld.eq (Yld.bind (P := fun i : Int => (signsT.find? (fun g => g.isPrefixOf (s.drop k)) = none ∧ i = -1) ∨ ∃ g, signsT.find? (fun g => g.isPrefixOf (s.drop k)) = some g ∧ 0 ≤ i ∧ idx? signsT i = some g) (Yld.bind (first_yld (c := fun g => g.isPrefixOf (s.drop k)) (Q := fun t => (signsT.find? (fun g => g.isPrefixOf (s.drop k)) = none ∧ t = .inl ()) ∨ ∃ g i, signsT.find? (fun g => g.isPrefixOf (s.drop k)) = some g ∧ 0 ≤ i ∧ idx? signsT i = some g ∧ t = .inr i) (by omega) (by omega) (fun h => .inl ⟨h, rfl⟩) (fun i x hx hc => ?_) (fun i x hx h0 hc hf => ?_)) (fun t ht => ?_)) (fun i hi => ?_))
 ·rw [hx, Option.bind_some]
  unfold lexer_scanner_sign_1_S strings_HasPrefix_S drop?
  rw [if_pos ⟨by omega, by omega⟩]
  simp only [Option.bind_some, Int.toNat_natCast, Lib.hasPrefix, hc, Bool.false_eq_true, if_false]
 ·rw [hx, Option.bind_some]
  unfold lexer_scanner_sign_1_S strings_HasPrefix_S drop?
  rw [if_pos ⟨by omega, by omega⟩]
  simp only [Option.bind_some, Int.toNat_natCast, Lib.hasPrefix, hc, if_true]
  exact Yld.some ⟨_, rfl, .inr ⟨x, i, hf, h0, hx, rfl⟩⟩
 ·rcases ht with ⟨h, rfl⟩ | ⟨g, i, h, h0, hi, rfl⟩
  ·exact Yld.some (.inl ⟨h, rfl⟩)
  ·exact Yld.some (.inr ⟨g, h, h0, hi⟩)
 ·unfold signT
  rcases hi with ⟨h, rfl⟩ | ⟨g, h, h0, hi⟩
  ·rw [h, if_pos (by decide)]
   exact Yld.some rfl
  ·rw [h, if_neg (by simp; omega)]
   simp only [Option.bind_some, alt2, hi]
   have hg := hs2 g (List.mem_of_find?_eq_some h)
   rw [show (k : Int) + (g.length : Int) = ((k + g.length : Nat) : Int) by omega, wr (by omega) (by omega)]
   exact Yld.some rfl
theorem pre_take {g r : Str} : g.isPrefixOf r = true ↔ g.length ≤ r.length ∧ r.take g.length = g := by
  rw [List.isPrefixOf_iff_prefix]
  constructor
  · rintro ⟨t, rfl⟩
    exact ⟨by simp, by simp⟩
  · rintro ⟨h1, h2⟩
    exact ⟨r.drop g.length, by conv => lhs; lhs; rw [← h2]
                               exact List.take_append_drop _ _⟩
end Go.Proofs.YtbcdabflmkgkiaaGreatDoor

namespace Go.Proofs.YtbcdabflmkgkiaaGreatDoor
open Go Go.Sk
set_option linter.unusedVariables false
set_option linter.unusedSimpArgs false
inductive Lx : Nat → Str → List Token ⊕ Problem → Prop
 | done {k : Nat} {r : Str} (h : sk false r = []) : Lx k r (.inl [])
 | bad {k j : Nat} {r q : Str} {b : UInt8} {e : Int} (h : sk false r = b :: q) (hj : k + r.length = j + (q.length + 1)) (ht : tok (b :: q) = .bad e) : Lx k r (.inr ⟨(j : Int), e⟩)
 | err {k j : Nat} {r q : Str} {b : UInt8} {kd : Int} {t : Str} {m : Nat} {p : Problem} (h : sk false r = b :: q) (hj : k + r.length = j + (q.length + 1)) (ht : tok (b :: q) = .got kd t m) (hl : Lx (j + m) ((b :: q).drop m) (.inr p)) : Lx k r (.inr p)
 | one {k j : Nat} {r q : Str} {b : UInt8} {kd : Int} {t : Str} {m : Nat} {l : List Token} (h : sk false r = b :: q) (hj : k + r.length = j + (q.length + 1)) (ht : tok (b :: q) = .got kd t m) (hl : Lx (j + m) ((b :: q).drop m) (.inl l)) : Lx k r (.inl (⟨kd, (j : Int), t⟩ :: l))
theorem sign_mem {r : Str} {kd : Int} {t : Str} {m : Nat} (h : signT r = .got kd t m) : t ∈ signsT ∧ m = t.length ∧ kd = 5 ∧ t.isPrefixOf r = true := by
 unfold signT at h
 cases hf : signsT.find? (fun g => g.isPrefixOf r) with
 | none => rw [hf] at h; cases h
 | some g =>
  rw [hf] at h
  cases h
  exact ⟨List.mem_of_find?_eq_some hf, rfl, rfl, by simpa using List.find?_some hf⟩
theorem numL_pos {b : UInt8} {q : Str} (h : isD b = true) : 1 ≤ (numL (b :: q)).1 := by
 have h0 : 1 ≤ ((b :: q).takeWhile isD).length := by rw [List.takeWhile_cons_of_pos h]; simp
 unfold numL
 split
 ·split <;> simp only <;> omega
 ·exact h0
theorem tok_pos {b : UInt8} {q : Str} {kd : Int} {t : Str} {m : Nat} (h : tok (b :: q) = .got kd t m) : 1 ≤ m ∧ m ≤ q.length + 1 := by
 unfold tok at h
 simp only at h
 split at h
 ·next hb =>
  unfold nameT at h
  split at h
  ·cases h
  ·cases h
   have hn : isN b = true := by unfold isN; rw [hb]; rfl
   have := tw_le isN (b :: q)
   rw [List.takeWhile_cons_of_pos hn] at this ⊢
   simp only [List.length_cons] at *
   omega
 ·split at h
  ·next hb =>
   unfold numT at h
   split at h
   ·cases h
   ·split at h
    ·cases h
    ·cases h
     have h1 := numL_pos (q := q) hb
     have h2 := numL_le (b :: q)
     simp only [List.length_cons] at h2
     omega
  ·split at h
   ·unfold textT at h
    simp only [List.drop_succ_cons, List.drop_zero] at h
    cases hg : textG q with
    | none => rw [hg] at h; cases h
    | some z =>
     rw [hg] at h
     simp only at h
     split at h
     ·cases h
     ·cases h
      have := textG_pos q z hg
      omega
   ·obtain ⟨h1, h2, h3, h4⟩ := sign_mem h
    have hs : ∀ g ∈ signsT, 1 ≤ g.length := by decide
    have := hs t h1
    have := (pre_take.1 h4).1
    simp only [List.length_cons] at this
    omega
theorem tok_bad {r : Str} {e : Int} (h : tok r = .bad e) : e = 2 ∨ e = 280 ∨ e = 281 := by
 unfold tok at h
 split at h
 ·cases h; simp
 ·split at h
  ·unfold nameT at h
   split at h
   ·cases h; simp
   ·cases h
  ·split at h
   ·unfold numT at h
    split at h
    ·cases h; simp
    ·split at h
     ·cases h; simp
     ·cases h
   ·split at h
    ·unfold textT at h
     split at h
     ·cases h; simp
     ·split at h
      ·cases h; simp
      ·cases h
    ·unfold signT at h
     split at h
     ·cases h; simp
     ·cases h
theorem Lx.total : ∀ (n k : Nat) (r : Str), r.length ≤ n → ∃ res, Lx k r res := by
 intro n
 induction n with
 | zero =>
  intro k r h
  have : r = [] := List.eq_nil_of_length_eq_zero (by omega)
  subst this
  exact ⟨_, .done rfl⟩
 | succ n ih =>
  intro k r h
  have hl := sk_len r false
  cases hs : sk false r with
  | nil => exact ⟨_, .done hs⟩
  | cons b q =>
   rw [hs] at hl
   simp only [List.length_cons] at hl
   have hj : k + r.length = (k + r.length - (q.length + 1)) + (q.length + 1) := by omega
   cases ht : tok (b :: q) with
   | bad e => exact ⟨_, .bad hs hj ht⟩
   | got kd t m =>
    have hp := tok_pos ht
    obtain ⟨res, hr⟩ := ih ((k + r.length - (q.length + 1)) + m) ((b :: q).drop m) (by rw [List.length_drop, List.length_cons]; omega)
    cases res with
    | inl l => exact ⟨_, .one hs hj ht hr⟩
    | inr p => exact ⟨_, .err hs hj ht hr⟩
theorem Lx.det {k : Nat} {r : Str} {a b : List Token ⊕ Problem} (h : Lx k r a) : Lx k r b → a = b := by
 induction h generalizing b with
 | done h =>
  intro h'
  cases h' with
  | done h2 => rfl
  | bad h2 => rw [h] at h2; cases h2
  | err h2 => rw [h] at h2; cases h2
  | one h2 => rw [h] at h2; cases h2
 | @bad k j r q b e h hj ht =>
  intro h'
  cases h' with
  | done h2 => rw [h] at h2; cases h2
  | @bad _ j2 _ q2 b2 e2 h2 hj2 ht2 =>
   rw [h] at h2; cases h2
   rw [ht] at ht2; cases ht2
   rw [show j = j2 by omega]
  | err h2 hj2 ht2 =>
   rw [h] at h2; cases h2
   rw [ht] at ht2; cases ht2
  | one h2 hj2 ht2 =>
   rw [h] at h2; cases h2
   rw [ht] at ht2; cases ht2
 | @err k j r q b kd t m p h hj ht hl ih =>
  intro h'
  cases h' with
  | done h2 => rw [h] at h2; cases h2
  | bad h2 hj2 ht2 =>
   rw [h] at h2; cases h2
   rw [ht] at ht2; cases ht2
  | @err _ j2 _ q2 b2 kd2 t2 m2 p2 h2 hj2 ht2 hl2 =>
   rw [h] at h2; cases h2
   rw [ht] at ht2; cases ht2
   have e : j = j2 := by omega
   subst e
   exact ih hl2
  | @one _ j2 _ q2 b2 kd2 t2 m2 l2 h2 hj2 ht2 hl2 =>
   rw [h] at h2; cases h2
   rw [ht] at ht2; cases ht2
   have e : j = j2 := by omega
   subst e
   cases ih hl2
 | @one k j r q b kd t m l h hj ht hl ih =>
  intro h'
  cases h' with
  | done h2 => rw [h] at h2; cases h2
  | bad h2 hj2 ht2 =>
   rw [h] at h2; cases h2
   rw [ht] at ht2; cases ht2
  | @err _ j2 _ q2 b2 kd2 t2 m2 p2 h2 hj2 ht2 hl2 =>
   rw [h] at h2; cases h2
   rw [ht] at ht2; cases ht2
   have e : j = j2 := by omega
   subst e
   cases ih hl2
  | @one _ j2 _ q2 b2 kd2 t2 m2 l2 h2 hj2 ht2 hl2 =>
   rw [h] at h2; cases h2
   rw [ht] at ht2; cases ht2
   have e : j = j2 := by omega
   subst e
   have := ih hl2
   injection this with this
   rw [this]
theorem main_loop {σ τ : Type} {s : Str} {body : σ → Option (σ ⊕ τ)} (st : List Token → Nat → σ) (fin : List Token → τ) (fail : Problem → τ)
  (h0 : ∀ out, body (st out s.length) = some (.inr (fin out)))
  (h1 : ∀ out k b q, s.drop k = b :: q → out.length ≤ k → Yld (body (st out k)) fun o => match tok (b :: q) with | .bad e => o = .inr (fail ⟨(k : Int), e⟩) | .got kd t m => o = .inl (st (out ++ [⟨kd, (k : Int), t⟩]) (sp s (k + m))))
  {k : Nat} {r : Str} {res : List Token ⊕ Problem} (h : Lx k r res) : ∀ (out : List Token) (G : Nat), s.drop k = r → k ≤ s.length → out.length ≤ k → s.length - k < G →
  iter G body (st out (sp s k)) = some (match res with | .inl l => fin (out ++ l) | .inr p => fail p) := by
 induction h with
 | @done k r h =>
  intro out G hr hk ho hG
  obtain ⟨G, rfl⟩ : ∃ g, G = g + 1 := ⟨G - 1, by omega⟩
  have : sp s k = s.length := by unfold sp; rw [hr, h]; simp
  rw [this, iter_succ, h0]
  simp [alt2]
 | @bad k j r q b e h hj ht =>
  intro out G hr hk ho hG
  obtain ⟨G, rfl⟩ : ∃ g, G = g + 1 := ⟨G - 1, by omega⟩
  have hl : r.length = s.length - k := by rw [← hr, List.length_drop]
  have e1 : sp s k = j := by unfold sp; rw [hr, h]; simp only [List.length_cons]; omega
  have e2 := sp_drop hk
  rw [e1, hr, h] at e2
  have hjk := sp_ge hk
  rw [e1] at hjk
  obtain ⟨o, ho2, hq⟩ := h1 out j b q e2 (by omega)
  rw [ht] at hq
  rw [e1, iter_succ, ho2, hq]
  rfl
 | @err k j r q b kd t m p h hj ht hl ih =>
  intro out G hr hk ho hG
  obtain ⟨G, rfl⟩ : ∃ g, G = g + 1 := ⟨G - 1, by omega⟩
  have hl : r.length = s.length - k := by rw [← hr, List.length_drop]
  have e1 : sp s k = j := by unfold sp; rw [hr, h]; simp only [List.length_cons]; omega
  have e2 := sp_drop hk
  rw [e1, hr, h] at e2
  have hjk := sp_ge hk
  rw [e1] at hjk
  obtain ⟨o, ho2, hq⟩ := h1 out j b q e2 (by omega)
  rw [ht] at hq
  have hp := tok_pos ht
  rw [e1, iter_succ, ho2, hq]
  exact ih _ _ (by rw [← List.drop_drop, e2]) (by omega) (by simp; omega) (by omega)
 | @one k j r q b kd t m l h hj ht hl ih =>
  intro out G hr hk ho hG
  obtain ⟨G, rfl⟩ : ∃ g, G = g + 1 := ⟨G - 1, by omega⟩
  have hl : r.length = s.length - k := by rw [← hr, List.length_drop]
  have e1 : sp s k = j := by unfold sp; rw [hr, h]; simp only [List.length_cons]; omega
  have e2 := sp_drop hk
  rw [e1, hr, h] at e2
  have hjk := sp_ge hk
  rw [e1] at hjk
  obtain ⟨o, ho2, hq⟩ := h1 out j b q e2 (by omega)
  rw [ht] at hq
  have hp := tok_pos ht
  rw [e1, iter_succ, ho2, hq]
  have := ih (out ++ [⟨kd, (j : Int), t⟩]) G (by rw [← List.drop_drop, e2]) (by omega) (by simp; omega) (by omega)
  simp only [alt2, Option.bind_some]
  rw [this]
  simp
theorem iter_step {σ τ : Type} {body : σ → Option (σ ⊕ τ)} {F : Nat} {s : σ} (h : 0 < F) : iter F body s = (body s).bind (alt2 (iter (F - 1) body) some) := by
 obtain ⟨G, rfl⟩ : ∃ g, F = g + 1 := ⟨F - 1, by omega⟩
 rfl
def outP : List Token ⊕ Problem → List Token × Problem
 | .inl l => (l, ⟨0, 0⟩)
 | .inr p => ([], p)
theorem tokens_ok {F : Nat} {s : Str} {res : List Token ⊕ Problem} (hs : s.length ≤ 100000) (hF : s.length + 1000 < F) (h : Lx 0 s res) : lexer_Tokens_S F s = some (outP res) := by
 unfold lexer_Tokens_S
 rw [if_neg (by simp; omega)]
 have hsk := skip_ok (F := F) (s := s) (k := 0) (by omega) (by omega) (by omega)
 rw [show (((0 : Nat) : Int)) = 0 from rfl] at hsk
 rw [hsk]
 simp only [Option.bind_some, un2]
 rw [main_loop (s := s) (fun out k => (out, (⟨s, (k : Int)⟩ : Scan))) (fun l => .inl l) (fun p => .inr ([], p)) ?_ ?_ h [] F rfl (by omega) (by simp) (by omega)]
 ·cases res <;> rfl
 ·intro out
  simp only [un2]
  rw [if_neg (by simp)]
 ·intro out k b q hd ho
  have hk := drop_lt hd
  simp only [un2]
  rw [if_pos (decide_eq_true (by omega))]
  refine Yld.bind (P := fun o => match tok (b :: q) with | .bad e => o = .inr ([], ⟨(k : Int), e⟩) | .got kd t m => o = .inl (out ++ [⟨kd, (k : Int), t⟩], ⟨s, ((k + m : Nat) : Int)⟩)) (Yld.bind (P := fun o => match tok (b :: q) with | .bad e => o = .inr ([], ⟨(k : Int), e⟩) | .got kd t m => o = .inl (out ++ [⟨kd, (k : Int), t⟩], ⟨s, ((k + m : Nat) : Int)⟩)) ?_ ?_) ?_
  ·have happ : ∀ x : Token, app? out [x] = some (out ++ [x]) := fun x => app?_eq (by simp only [List.length_cons, List.length_nil]; omega)
   rw [iter_step (by omega)]
   try simp only [un2]
   rw [if_pos (by simp), if_pos (by simp)]
   by_cases hl : isL b = true
   ·have e : tok (b :: q) = nameT (b :: q) := by simp only [tok, if_pos hl]
    rw [e, name_ok hd hl (by omega) (by omega) (by omega), hd, Option.bind_some]
    cases nameT (b :: q) with
    | bad e => exact Yld.some rfl
    | got kd t m =>
     simp only [Tk.res, altP, un4, if_true, happ, Option.bind_some]
     exact Yld.some rfl
   ·have hl' : isL b = false := by simpa using hl
    rw [name_no hd hl']
    simp only [Option.bind_some, altP, un4, Bool.false_eq_true, if_false, alt2]
    rw [show IntKind.i64.wrap (0 + 1) = 1 from rfl, iter_step (by omega)]
    try simp only [un2]
    rw [if_pos (by simp), if_neg (by simp), if_pos (by simp)]
    by_cases hg : isD b = true
    ·have e : tok (b :: q) = numT (b :: q) := by simp only [tok, if_neg hl, if_pos hg]
     rw [e, number_ok hd hg (by omega) (by omega), hd, Option.bind_some]
     cases numT (b :: q) with
     | bad e => exact Yld.some rfl
     | got kd t m =>
      simp only [Tk.res, altP, un4, if_true, happ, Option.bind_some]
      exact Yld.some rfl
    ·have hg' : isD b = false := by simpa using hg
     rw [number_no hd hg' (by omega) (by omega)]
     simp only [Option.bind_some, altP, un4, Bool.false_eq_true, if_false, alt2]
     rw [show IntKind.i64.wrap (1 + 1) = 2 from rfl, iter_step (by omega)]
     try simp only [un2]
     rw [if_pos (by simp), if_neg (by simp), if_neg (by simp), if_pos (by simp)]
     by_cases hb : b = 34
     ·subst hb
      have e : tok (34 :: q) = textT (34 :: q) := by simp only [tok, if_neg hl, if_neg hg, if_true]
      rw [e, text_ok hd (by omega) (by omega), hd, Option.bind_some]
      cases textT (34 :: q) with
      | bad e => exact Yld.some rfl
      | got kd t m =>
       simp only [Tk.res, altP, un4, if_true, happ, Option.bind_some]
       exact Yld.some rfl
     ·rw [text_no hd hb]
      simp only [Option.bind_some, altP, un4, Bool.false_eq_true, if_false, alt2]
      rw [show IntKind.i64.wrap (2 + 1) = 3 from rfl, iter_step (by omega)]
      try simp only [un2]
      rw [if_pos (by simp), if_neg (by simp), if_neg (by simp), if_neg (by simp), if_pos (by simp)]
      have e : tok (b :: q) = signT (b :: q) := by simp only [tok, if_neg hl, if_neg hg, if_neg hb]
      rw [e, sign_ok (by omega) (by omega) (by omega), hd, Option.bind_some]
      cases signT (b :: q) with
      | bad e => exact Yld.some rfl
      | got kd t m =>
       simp only [altP, un3, if_true, happ, Option.bind_some]
       exact Yld.some rfl
  ·intro o ho2
   cases ht : tok (b :: q) with
   | bad e => rw [ht] at ho2; subst ho2; exact Yld.some rfl
   | got kd t m => rw [ht] at ho2; subst ho2; exact Yld.some rfl
  ·intro o ho2
   cases ht : tok (b :: q) with
   | bad e => rw [ht] at ho2; subst ho2; exact Yld.some rfl
   | got kd t m =>
    rw [ht] at ho2
    subst ho2
    have hp := tok_pos ht
    have hlen : q.length + 1 = s.length - k := by
     have := congrArg List.length hd
     rw [List.length_drop, List.length_cons] at this; omega
    simp only [alt2, un2]
    rw [skip_ok (by omega) (by omega) (by omega), Option.bind_some]
    exact Yld.some rfl
end Go.Proofs.YtbcdabflmkgkiaaGreatDoor

namespace Go.Proofs.YtbcdabflmkgkiaaGreatDoor
open Go Go.Sk
set_option linter.unusedVariables false
set_option linter.unusedSimpArgs false
def isQ (b : UInt8) : Bool := decide (b = 34) || decide (b = 92)
def esc1 (b : UInt8) : Str := if isQ b then [92, b] else [b]
def esc (s : Str) : Str := s.flatMap esc1
def qs (s : Str) : Nat := s.countP isQ
theorem esc_nil : esc [] = [] := rfl
theorem esc_cons (b : UInt8) (s : Str) : esc (b :: s) = esc1 b ++ esc s := rfl
theorem esc_app (a b : Str) : esc (a ++ b) = esc a ++ esc b := List.flatMap_append
theorem esc_len (s : Str) : (esc s).length = s.length + qs s := by
 induction s with
 | nil => rfl
 | cons b s ih =>
  rw [esc_cons, List.length_append, ih]
  unfold qs esc1
  by_cases h : isQ b = true
  ·rw [if_pos h, List.countP_cons_of_pos h]; simp; omega
  ·rw [if_neg h, List.countP_cons_of_neg h]; simp; omega
theorem qs_le (s : Str) : qs s ≤ s.length := List.countP_le_length
theorem esc_same {s : Str} (h : qs s = 0) : esc s = s := by
 induction s with
 | nil => rfl
 | cons b s ih =>
  unfold qs at h ih
  by_cases hb : isQ b = true
  ·rw [List.countP_cons_of_pos hb] at h; omega
  ·rw [List.countP_cons_of_neg hb] at h
   rw [esc_cons, ih h]
   unfold esc1
   rw [if_neg hb]; rfl
theorem qs_two (s : Str) : qs s = s.count 34 + s.count 92 := by
 induction s with
 | nil => rfl
 | cons b s ih =>
  unfold qs at ih ⊢
  by_cases h1 : b = 34
  ·subst h1
   rw [List.countP_cons_of_pos (by decide), ih, List.count_cons_self, List.count_cons_of_ne (by decide)]; omega
  ·by_cases h2 : b = 92
   ·subst h2
    rw [List.countP_cons_of_pos (by decide), ih, List.count_cons_self, List.count_cons_of_ne (by decide)]; omega
   ·rw [List.countP_cons_of_neg (by simp [isQ, h1, h2]), ih, List.count_cons_of_ne (by simpa using fun h => h1 h), List.count_cons_of_ne (by simpa using fun h => h2 h)]
theorem escB_ok (b : UInt8) : escB ((b.toNat : Int) : Int).toNat = if isQ b then ofStr (esc1 b) else [] := by
 have h : ∀ b : UInt8, decide (escB ((b.toNat : Int) : Int).toNat = if isQ b then ofStr (esc1 b) else []) = true := bytes_all (by decide +kernel)
 exact of_decide_eq_true (h b)
theorem ofStr_len (s : Str) : (ofStr s).length = s.length := by simp [ofStr]
theorem ofStr_app (a b : Str) : ofStr (a ++ b) = ofStr a ++ ofStr b := List.map_append
theorem take_snoc {s : Str} {k : Nat} {b : UInt8} {r : Str} (h : s.drop k = b :: r) : s.take (k + 1) = s.take k ++ [b] := by
 have hk := drop_lt h
 rw [List.take_succ_eq_append_getElem hk]
 have := List.drop_eq_getElem_cons hk
 rw [h] at this
 injection this with h1 h2
 rw [h1]
theorem qs_snoc {s : Str} {k : Nat} {b : UInt8} {r : Str} (h : s.drop k = b :: r) : qs (s.take (k + 1)) = qs (s.take k) + if isQ b then 1 else 0 := by
 rw [take_snoc h]
 unfold qs
 rw [List.countP_append]
 by_cases hb : isQ b = true
 ·rw [List.countP_cons_of_pos hb, if_pos hb]; rfl
 ·rw [List.countP_cons_of_neg hb, if_neg hb]; rfl
theorem qs_split (s : Str) (k : Nat) : qs s = qs (s.take k) + qs (s.drop k) := by
 conv => lhs; rw [← List.take_append_drop k s]
 exact List.countP_append
theorem splice_rep {A ys : List Int} {n : Nat} (h : ys.length ≤ n) : spliceE (A ++ List.replicate n 0) A.length ys = (A ++ ys) ++ List.replicate (n - ys.length) 0 := by
 unfold spliceE
 rw [List.take_left, ← List.drop_drop, List.drop_left, List.drop_replicate]
theorem set_rep {A : List Int} {x : Int} {n : Nat} (h : 1 ≤ n) : (A ++ List.replicate n 0).set A.length x = (A ++ [x]) ++ List.replicate (n - 1) 0 := by
 obtain ⟨m, rfl⟩ : ∃ m, n = m + 1 := ⟨n - 1, by omega⟩
 rw [List.replicate_succ, List.set_append_right _ _ (Nat.le_refl _), Nat.sub_self]
 simp
theorem bsr_ok {F : Nat} {s : Str} (hF : s.length + 10 < F) (hs : s.length ≤ 100000000) : bsr_Replace_S F s = some (esc s) := by
 unfold bsr_Replace_S
 have hq := qs_le s
 have h1 : Yld (letN (IntKind.i64.wrap (([[34], [92]].length : Int) * 8)) fun x_3 => if (decide (x_3 ≤ (s.length : Int))) = true then (iter F (un3 fun newSize_4 anyChanges_5 x_6 => if (decide (x_6 < ([[34], [92]].length : Int))) = true then (Option.bind (Option.bind (idx? [[34], [92]] x_6) (fun x_11 => Option.bind (strings_Count_S F s x_11) (fun x_12 => if (decide (x_12 ≠ 0)) = true then (Option.bind (idx? x_11 0) (fun x_13 => some (IntKind.i64.wrap (newSize_4 + (IntKind.i64.wrap (x_12 * (IntKind.i64.wrap (((escB ((x_13.toNat : Int) : Int).toNat).length : Int) - 1))))), true))) else (some (newSize_4, anyChanges_5))))) (un2 fun newSize_9 anyChanges_10 => some (.inl (newSize_9, anyChanges_10, IntKind.i64.wrap (x_6 + 1))))) else (some (.inr (newSize_4, anyChanges_5)))) ((s.length : Int), false, 0)) else (iter F (un3 fun newSize_14 anyChanges_15 i_16 => if (decide (i_16 < (s.length : Int))) = true then (Option.bind (Option.bind (idx? s i_16) (fun x_21 => if (decide (escB ((x_21.toNat : Int) : Int).toNat ≠ [])) = true then (letN ((escB ((x_21.toNat : Int) : Int).toNat).length : Int) fun x_22 => letN (IntKind.i64.wrap (newSize_14 + (IntKind.i64.wrap (x_22 - 1)))) fun x_23 => some (x_23, true)) else (some (newSize_14, anyChanges_15)))) (un2 fun newSize_19 anyChanges_20 => some (.inl (newSize_19, anyChanges_20, IntKind.i64.wrap (i_16 + 1))))) else (some (.inr (newSize_14, anyChanges_15)))) ((s.length : Int), false, 0))) (fun o : Int × Bool => o = (((s.length + qs s : Nat) : Int), decide (0 < qs s))) := by
  refine Yld.ln (Yld.ite (fun _ => ?_) (fun _ => ?_))
  ·have hc1 : strings_Count_S F s [34] = some ((s.count 34 : Nat) : Int) := rfl
   have hc2 : strings_Count_S F s [92] = some ((s.count 92 : Nat) : Int) := rfl
   have l1 : s.count 34 ≤ s.length := List.count_le_length
   have l2 : s.count 92 ≤ s.length := List.count_le_length
   rw [qs_two]
   rw [iter_step (by omega)]
   simp only [un3]
   rw [if_pos (by simp), show idx? [([34] : Str), [92]] 0 = some [34] from rfl, Option.bind_some, hc1, Option.bind_some]
   have e1 : (if decide (((s.count 34 : Nat) : Int) ≠ 0) = true then Option.bind (idx? ([34] : Str) 0) (fun x_13 => some (IntKind.i64.wrap ((s.length : Int) + (IntKind.i64.wrap (((s.count 34 : Nat) : Int) * (IntKind.i64.wrap (((escB ((x_13.toNat : Int) : Int).toNat).length : Int) - 1))))), true)) else some ((s.length : Int), false)) = some (((s.length + s.count 34 : Nat) : Int), decide (0 < s.count 34)) := by
    by_cases h0 : s.count 34 = 0
    ·rw [if_neg (by simp [h0]), h0]; rfl
    ·rw [if_pos (decide_eq_true (by omega)), show idx? ([34] : Str) 0 = some 34 from rfl, Option.bind_some]
     have e2 : IntKind.i64.wrap (((escB (((34 : UInt8).toNat : Int) : Int).toNat).length : Int) - 1) = 1 := by decide
     rw [e2, Int.mul_one, wr (z := ((s.count 34 : Nat) : Int)) (by omega) (by omega), wr (by omega) (by omega), decide_eq_true (show 0 < s.count 34 by omega)]
     rfl
   rw [e1]
   simp only [Option.bind_some, un2, alt2]
   rw [show IntKind.i64.wrap (0 + 1) = 1 from rfl, iter_step (by omega)]
   simp only [un3]
   rw [if_pos (by simp), show idx? [([34] : Str), [92]] 1 = some [92] from rfl, Option.bind_some, hc2, Option.bind_some]
   have e3 : (if decide (((s.count 92 : Nat) : Int) ≠ 0) = true then Option.bind (idx? ([92] : Str) 0) (fun x_13 => some (IntKind.i64.wrap (((s.length + s.count 34 : Nat) : Int) + (IntKind.i64.wrap (((s.count 92 : Nat) : Int) * (IntKind.i64.wrap (((escB ((x_13.toNat : Int) : Int).toNat).length : Int) - 1))))), true)) else some (((s.length + s.count 34 : Nat) : Int), decide (0 < s.count 34))) = some (((s.length + (s.count 34 + s.count 92) : Nat) : Int), decide (0 < s.count 34 + s.count 92)) := by
    by_cases h0 : s.count 92 = 0
    ·rw [if_neg (by simp [h0]), h0]; rfl
    ·rw [if_pos (decide_eq_true (by omega)), show idx? ([92] : Str) 0 = some 92 from rfl, Option.bind_some]
     have e2 : IntKind.i64.wrap (((escB (((92 : UInt8).toNat : Int) : Int).toNat).length : Int) - 1) = 1 := by decide
     rw [e2, Int.mul_one, wr (z := ((s.count 92 : Nat) : Int)) (by omega) (by omega), wr (by omega) (by omega), decide_eq_true (show 0 < s.count 34 + s.count 92 by omega)]
     congr 2; omega
   rw [e3]
   simp only [Option.bind_some, un2, alt2]
   rw [show IntKind.i64.wrap (1 + 1) = 2 from rfl, iter_step (by omega)]
   simp only [un3]
   rw [if_neg (by simp)]
   exact Yld.some rfl
  ·refine (iter_yld (fun k : Nat => (((s.length + qs (s.take k) : Nat) : Int), decide (0 < qs (s.take k)), (k : Int))) (fun k => s.length - k) (fun k => k ≤ s.length) (fun k t => t = (((s.length + qs s : Nat) : Int), decide (0 < qs s))) ?_ F 0 (by omega) (by omega))
   intro k hk
   simp only [un3]
   have hqk : qs (s.take k) ≤ s.length := Nat.le_trans (qs_le _) (by rw [List.length_take]; omega)
   cases hd : s.drop k with
   | nil =>
    have hend := drop_nil hd hk
    rw [if_neg (by simp; omega)]
    refine .inr ⟨_, rfl, ?_⟩
    rw [hend, List.take_length]
   | cons b r =>
    have hlt := drop_lt hd
    refine .inl ⟨k + 1, ?_, by omega, by omega, fun t ht => ht⟩
    rw [if_pos (decide_eq_true (by omega)), idx_drop hd, Option.bind_some, escB_ok, qs_snoc hd]
    by_cases hb : isQ b = true
    ·have e1 : esc1 b = [92, b] := by unfold esc1; rw [if_pos hb]
     rw [if_pos hb, if_pos hb, e1, if_pos (decide_eq_true (by simp [ofStr]))]
     simp only [letN, Option.bind_some, un2]
     rw [wk k (by omega)]
     have e2 : IntKind.i64.wrap (((ofStr [92, b]).length : Int) - 1) = 1 := rfl
     rw [e2, show ((s.length + qs (s.take k) : Nat) : Int) + 1 = ((s.length + (qs (s.take k) + 1) : Nat) : Int) by omega, wr (by omega) (by omega)]
     rw [decide_eq_true (show 0 < qs (s.take k) + 1 by omega)]
    ·rw [if_neg hb, if_neg hb, if_neg (by simp)]
     simp only [Option.bind_some, un2, Nat.add_zero]
     rw [wk k (by omega)]
 refine Yld.eq (Yld.bind h1 fun o ho => ?_)
 subst ho
 simp only [un2]
 by_cases h0 : qs s = 0
 ·rw [if_pos (by simp [h0]), esc_same h0]
  exact Yld.some rfl
 ·rw [if_neg (by simp; omega)]
  have hmk : mk? (0 : Int) ((s.length + qs s : Nat) : Int) ((s.length + qs s : Nat) : Int) = some (List.replicate (s.length + qs s) 0) := by
   unfold mk?
   rw [if_pos ⟨by omega, by omega, by omega⟩, Int.toNat_natCast]
  rw [hmk, Option.bind_some]
  refine Yld.bind (P := fun b => b = ofStr (esc s)) (iter_yld (fun k : Nat => (ofStr (esc (s.take k)) ++ List.replicate (s.length + qs s - (esc (s.take k)).length) 0, (((esc (s.take k)).length : Nat) : Int), (k : Int))) (fun k => s.length - k) (fun k => k ≤ s.length) (fun k t => t = ofStr (esc s)) ?_ F 0 (by omega) (by omega)) ?_
  ·intro k hk
   simp only [un3]
   have hl : (esc (s.take k)).length = k + qs (s.take k) := by rw [esc_len, List.length_take]; congr 1; omega
   cases hd : s.drop k with
   | nil =>
    have hend := drop_nil hd hk
    rw [if_neg (by simp; omega)]
    refine .inr ⟨_, rfl, ?_⟩
    rw [hend, List.take_length, esc_len]
    simp
   | cons b r =>
    have hlt := drop_lt hd
    have hsp := qs_split s (k + 1)
    have hsn := qs_snoc hd
    refine .inl ⟨k + 1, ?_, by omega, by omega, fun t ht => ht⟩
    rw [if_pos (decide_eq_true (by omega)), idx_drop hd, Option.bind_some, escB_ok, take_snoc hd, esc_app, ofStr_app, wk k (by omega)]
    have e9 : esc [b] = esc1 b := by rw [esc_cons, esc_nil, List.append_nil]
    rw [e9, List.length_append]
    by_cases hb : isQ b = true
    ·have e1 : esc1 b = [92, b] := by unfold esc1; rw [if_pos hb]
     rw [if_pos hb] at hsn
     rw [if_pos hb, e1, if_pos (decide_eq_true (by simp [ofStr]))]
     have hc : cpy? (ofStr (esc (s.take k)) ++ List.replicate (s.length + qs s - (esc (s.take k)).length) 0) (ofStr [92, b]) (((esc (s.take k)).length : Nat) : Int) = some ((ofStr (esc (s.take k)) ++ ofStr [92, b]) ++ List.replicate (s.length + qs s - (esc (s.take k)).length - 2) 0) := by
      unfold cpy?
      rw [if_pos]
      ·congr 1
       have := splice_rep (A := ofStr (esc (s.take k))) (ys := ofStr [92, b]) (n := s.length + qs s - (esc (s.take k)).length) (by show 2 ≤ _; omega)
       rw [ofStr_len] at this
       rw [Int.toNat_natCast]
       exact this
      ·refine ⟨by omega, by simp [ofStr], ?_, ?_⟩
       ·show _ + 2 ≤ _
        simp only [Int.toNat_natCast, List.length_append, ofStr_len, List.length_replicate]; omega
       ·simp only [List.length_append, ofStr_len, List.length_replicate]; omega
     rw [hc]
     simp only [Option.bind_some, un2]
     have e2 : ((ofStr [92, b]).length : Int) = 2 := rfl
     rw [e2, wr (by omega) (by omega)]
     have e3 : ([92, b] : Str).length = 2 := rfl
     rw [e3, Nat.sub_sub]
     rfl
    ·have e1 : esc1 b = [b] := by unfold esc1; rw [if_neg hb]
     rw [if_neg hb] at hsn
     rw [if_neg hb, e1, if_neg (by simp)]
     have hi : ∃ x, idx? (ofStr (esc (s.take k)) ++ List.replicate (s.length + qs s - (esc (s.take k)).length) 0) (((esc (s.take k)).length : Nat) : Int) = some x := by
      refine ⟨_, idx?_eq (by omega) ?_⟩
      simp only [List.length_append, ofStr_len, List.length_replicate]; omega
     obtain ⟨x, hx⟩ := hi
     rw [hx]
     simp only [Option.bind_some, un2, Int.toNat_natCast]
     have := set_rep (A := ofStr (esc (s.take k))) (x := (b.toNat : Int)) (n := s.length + qs s - (esc (s.take k)).length) (by omega)
     rw [ofStr_len] at this
     rw [this, wr (by omega) (by omega)]
     have e3 : ([b] : Str).length = 1 := rfl
     rw [e3, Nat.sub_sub]
     rfl
  ·rintro b rfl
   rw [toStr_of]
   exact Yld.some rfl
def wrt (k : Int) (t : Str) : Str := if k = 4 then 34 :: (esc t ++ [34]) else t
theorem wrt_len (k : Int) (t : Str) : (wrt k t).length ≤ 2 * t.length + 2 := by
 unfold wrt
 have := esc_len t
 have := qs_le t
 split
 ·simp; omega
 ·omega
theorem written_ok {F : Nat} {t : Token} (hF : t.S.length + 10 < F) (hs : t.S.length ≤ 100000000) : lexer_written_S F t = some (wrt t.Kind t.S) := by
 unfold lexer_written_S wrt
 by_cases h4 : t.Kind = 4
 ·rw [if_neg (by simp [h4]), if_pos h4]
  have e1 : NewReplacer_S F = some () := rfl
  have e2 : Replacer_Replace_S F t.S 0 = bsr_Replace_S F t.S := by
   unfold Replacer_Replace_S
   rw [show Once_Do_S F 0 = some () from rfl]
   cases bsr_Replace_S F t.S <;> rfl
  have := esc_len t.S
  have := qs_le t.S
  rw [e1, Option.bind_some, e2, bsr_ok hF hs, Option.bind_some]
  rw [app?_eq (by simp; omega), Option.bind_some, app?_eq (by simp; omega)]
  rfl
 ·rw [if_pos (by simpa using h4), if_neg h4]
end Go.Proofs.YtbcdabflmkgkiaaGreatDoor

namespace Go.Proofs.YtbcdabflmkgkiaaGreatDoor
open Go Go.Sk
set_option linter.unusedVariables false
set_option linter.unusedSimpArgs false
def isP (c : UInt8) : Bool := isS c || decide (c = 35)
def Sep (r : Str) : Prop := ∀ c q, r = c :: q → isP c = true
theorem sep_nil : Sep [] := fun c q h => by cases h
theorem sep_cons {c : UInt8} {q : Str} (h : isP c = true) : Sep (c :: q) := fun c' q' e => by injection e with e1 _; rw [← e1]; exact h
theorem isP_no (c : UInt8) (h : isP c = true) : isN c = false ∧ isD c = false ∧ isL c = false ∧ c ≠ 46 ∧ c ≠ 95 ∧ c ≠ 34 := by
 have h2 : ∀ c : UInt8, decide (isP c = true → isN c = false ∧ isD c = false ∧ isL c = false ∧ c ≠ 46 ∧ c ≠ 95 ∧ c ≠ 34) = true := bytes_all (by decide +kernel)
 exact of_decide_eq_true (h2 c) h
theorem tw_app {p : UInt8 → Bool} : ∀ {t rest : Str}, (∀ x ∈ t, p x = true) → (∀ c q, rest = c :: q → p c = false) → (t ++ rest).takeWhile p = t ∧ (t ++ rest).dropWhile p = rest
 | [], rest, _, h => by
  cases rest with
  | nil => exact ⟨rfl, rfl⟩
  | cons c q =>
   have := h c q rfl
   exact ⟨List.takeWhile_cons_of_neg (by simp [this]), List.dropWhile_cons_of_neg (by simp [this])⟩
 | b :: t, rest, ht, h => by
  have hb := ht b (by simp)
  obtain ⟨h1, h2⟩ := tw_app (t := t) (rest := rest) (fun x hx => ht x (by simp [hx])) h
  rw [List.cons_append, List.takeWhile_cons_of_pos hb, List.dropWhile_cons_of_pos hb, h1, h2]
  exact ⟨rfl, rfl⟩
theorem tw_all {p : UInt8 → Bool} (r : Str) : ∀ x ∈ r.takeWhile p, p x = true := by
 intro x hx
 exact List.all_eq_true.1 (List.all_takeWhile (p := p) (l := r)) x hx
theorem tw_dw (p : UInt8 → Bool) (r : Str) : r.takeWhile p ++ r.dropWhile p = r := List.takeWhile_append_dropWhile
theorem nameT_app {t rest : Str} (ht : ∀ x ∈ t, isN x = true) (h : ∀ c q, rest = c :: q → isN c = false) : nameT (t ++ rest) = if 32 < t.length then .bad 2 else .got (if isW t then 1 else 2) t t.length := by
 unfold nameT
 rw [(tw_app ht h).1]
def zeroA (A : Str) : Bool := decide (1 < A.length) && decide (pk A = 48)
theorem pk_app {A r : Str} (h : A ≠ []) : pk (A ++ r) = pk A := by
 cases A with
 | nil => exact absurd rfl h
 | cons a A => rfl
theorem num_one {A D : Str} (hA : ∀ x ∈ A, isD x = true) (h0 : A ≠ []) (hD : ∀ c q, D = c :: q → isD c = false) (hd : ∀ d q, D = 46 :: d :: q → isD d = false) :
  numT (A ++ D) = if 40 < A.length then .bad 2 else if zeroA A || lu D then .bad 281 else .got 3 A A.length := by
 obtain ⟨h1, h2⟩ := tw_app hA hD
 have hn : numL (A ++ D) = (A.length, A.length) := by
  rw [numL_no (by rw [h2]; exact hd), h1]
 unfold numT zero2 zeroA
 rw [hn, h1, pk_app h0]
 simp only [List.drop_left, List.take_left]
theorem num_two {A B D : Str} (hA : ∀ x ∈ A, isD x = true) (h0 : A ≠ []) (hB : ∀ x ∈ B, isD x = true) (h1 : B ≠ []) (hD : ∀ c q, D = c :: q → isD c = false) :
  numT (A ++ 46 :: (B ++ D)) = if 40 < A.length + B.length then .bad 2 else if zeroA A || lu D then .bad 281 else .got 3 (A ++ 46 :: B) (A.length + 1 + B.length) := by
 obtain ⟨e1, e2⟩ := tw_app (p := isD) (rest := 46 :: (B ++ D)) hA (by intro c q h; injection h with h _; rw [← h]; rfl)
 obtain ⟨e3, e4⟩ := tw_app hB hD
 have hn : numL (A ++ 46 :: (B ++ D)) = (A.length + 1 + B.length, A.length + B.length) := by
  cases B with
  | nil => exact absurd rfl h1
  | cons d B' =>
   rw [numL_dot (d := d) (q := B' ++ D) (by rw [e2]; rfl) (hB d (by simp)), e1]
   rw [show d :: (B' ++ D) = (d :: B') ++ D from rfl, e3]
 unfold numT zero2 zeroA
 rw [hn, e1, pk_app h0]
 have el : A ++ 46 :: (B ++ D) = (A ++ 46 :: B) ++ D := by simp
 have en : A.length + 1 + B.length = (A ++ 46 :: B).length := by simp; omega
 simp only
 rw [el, en, List.drop_left, List.take_left]
theorem num_split {b : UInt8} {q : Str} (hb : isD b = true) : (∃ A D, b :: q = A ++ D ∧ (∀ x ∈ A, isD x = true) ∧ A ≠ [] ∧ (∀ c q, D = c :: q → isD c = false) ∧ ∀ d q, D = 46 :: d :: q → isD d = false) ∨
  ∃ A B D, b :: q = A ++ 46 :: (B ++ D) ∧ (∀ x ∈ A, isD x = true) ∧ A ≠ [] ∧ (∀ x ∈ B, isD x = true) ∧ B ≠ [] ∧ ∀ c q, D = c :: q → isD c = false := by
 have h1 := tw_dw isD (b :: q)
 have h2 := tw_all (p := isD) (b :: q)
 have h3 : (b :: q).takeWhile isD ≠ [] := by rw [List.takeWhile_cons_of_pos hb]; simp
 have h4 := @dw_head isD (b :: q)
 by_cases hdot : ∃ d q1, (b :: q).dropWhile isD = 46 :: d :: q1 ∧ isD d = true
 ·obtain ⟨d, q1, hd, hg⟩ := hdot
  refine .inr ⟨(b :: q).takeWhile isD, (d :: q1).takeWhile isD, (d :: q1).dropWhile isD, ?_, h2, h3, tw_all _, ?_, fun c q h => dw_head h⟩
  ·rw [tw_dw, ← hd, h1]
  ·rw [List.takeWhile_cons_of_pos hg]; simp
 ·refine .inl ⟨_, _, h1.symm, h2, h3, fun c q h => h4 h, fun d q1 h => ?_⟩
  cases hg : isD d with
  | false => rfl
  | true => exact absurd ⟨d, q1, h, hg⟩ hdot
theorem lu_sep {r : Str} (h : Sep r) : lu r = false := by
 cases r with
 | nil => rfl
 | cons c q =>
  have := isP_no c (h c q rfl)
  unfold lu
  rw [pk_95]
  simp [hL, this]
theorem digit_sep {r : Str} (h : Sep r) : ∀ c q, r = c :: q → isD c = false := fun c q e => (isP_no c (h c q e)).2.1
theorem dot_sep {r : Str} (h : Sep r) : ∀ d q, r = 46 :: d :: q → isD d = false := fun d q e => absurd rfl (isP_no 46 (h 46 _ e)).2.2.2.1
theorem name_sep {r : Str} (h : Sep r) : ∀ c q, r = c :: q → isN c = false := fun c q e => (isP_no c (h c q e)).1
theorem textG_esc {S : Str} (h : ∀ x ∈ S, inT x = true) (r : Str) : textG (esc S ++ 34 :: r) = some (S, (esc S).length + 1) := by
 induction S with
 | nil => rw [esc_nil, List.nil_append, textG_cons, if_pos rfl]; rfl
 | cons b S ih =>
  have hb := h b (by simp)
  have ih := ih fun x hx => h x (by simp [hx])
  rw [esc_cons, List.append_assoc]
  by_cases hq : isQ b = true
  ·have e1 : esc1 b = [92, b] := by unfold esc1; rw [if_pos hq]
   have hq' : b = 34 ∨ b = 92 := by simpa [isQ] using hq
   rw [e1, List.cons_append, textG_cons, if_neg (by decide), if_pos rfl]
   simp only [List.cons_append, List.nil_append, if_pos hq', ih, Option.map_some, List.length_cons, List.length_append]
  ·have e1 : esc1 b = [b] := by unfold esc1; rw [if_neg hq]
   have hq' : b ≠ 34 ∧ b ≠ 92 := by simpa [isQ] using hq
   rw [e1, List.cons_append, textG_cons, if_neg hq'.1, if_neg hq'.2, if_pos hb]
   simp only [List.nil_append, ih, Option.map_some, List.length_cons, List.cons_append]
theorem textG_inv : ∀ (r : Str) (z : Str × Nat), textG r = some z → (∀ x ∈ z.1, inT x = true) ∧ r.take z.2 = esc z.1 ++ [34] ∧ z.2 = (esc z.1).length + 1
 | [], z, h => by cases h
 | b :: r, z, h => by
  rw [textG_cons] at h
  by_cases hb : b = 34
  ·rw [if_pos hb] at h
   cases h
   subst hb
   exact ⟨by simp, rfl, rfl⟩
  ·rw [if_neg hb] at h
   by_cases hc : b = 92
   ·rw [if_pos hc] at h
    subst hc
    cases r with
    | nil => cases h
    | cons c q =>
     simp only at h
     by_cases hcc : c = 34 ∨ c = 92
     ·rw [if_pos hcc] at h
      obtain ⟨y, hy, rfl⟩ := Option.map_eq_some_iff.1 h
      obtain ⟨h1, h2, h3⟩ := textG_inv q y hy
      have e1 : esc1 c = [92, c] := by unfold esc1; rw [if_pos (by simpa [isQ] using hcc)]
      have hin : inT c = true := by rcases hcc with rfl | rfl <;> rfl
      refine ⟨?_, ?_, ?_⟩
      ·intro x hx
       rcases List.mem_cons.1 hx with rfl | hx
       ·exact hin
       ·exact h1 x hx
      ·simp only [List.take_succ_cons, h2, esc_cons, e1]; rfl
      ·simp only [esc_cons, e1, List.length_append, h3, List.length_cons, List.length_nil]; omega
     ·rw [if_neg hcc] at h; cases h
   ·rw [if_neg hc] at h
    by_cases hin : inT b = true
    ·rw [if_pos hin] at h
     obtain ⟨y, hy, rfl⟩ := Option.map_eq_some_iff.1 h
     obtain ⟨h1, h2, h3⟩ := textG_inv r y hy
     have e1 : esc1 b = [b] := by unfold esc1; rw [if_neg (by simp [isQ, hb, hc])]
     refine ⟨?_, ?_, ?_⟩
     ·intro x hx
      rcases List.mem_cons.1 hx with rfl | hx
      ·exact hin
      ·exact h1 x hx
     ·simp only [List.take_succ_cons, h2, esc_cons, e1]; rfl
     ·simp only [esc_cons, e1, List.length_append, h3, List.length_cons, List.length_nil]; omega
    ·rw [if_neg hin] at h; cases h
theorem pre_sep : ∀ {g w rest : Str}, (∀ x ∈ g, isP x = false) → Sep rest → g.isPrefixOf (w ++ rest) = g.isPrefixOf w
 | [], w, rest, _, _ => by simp
 | x :: g, [], rest, hg, hs => by
  cases rest with
  | nil => rfl
  | cons c q =>
   have h1 := hg x (by simp)
   have h2 := hs c q rfl
   have : (x == c) = false := by
    simp only [beq_eq_false_iff_ne]
    rintro rfl; rw [h1] at h2; cases h2
   simp [List.isPrefixOf, this]
 | x :: g, y :: w, rest, hg, hs => by
  have ih := pre_sep (g := g) (w := w) (rest := rest) (fun z hz => hg z (by simp [hz])) hs
  simp only [List.cons_append, List.isPrefixOf, ih]
theorem signs_sep : ∀ g ∈ signsT, ∀ x ∈ g, isP x = false := by decide
theorem sign_sep {w rest : Str} (hs : Sep rest) : signT (w ++ rest) = signT w := by
 unfold signT
 have : ∀ l : List Str, (∀ g ∈ l, ∀ x ∈ g, isP x = false) → l.find? (fun g => g.isPrefixOf (w ++ rest)) = l.find? (fun g => g.isPrefixOf w) := by
  intro l
  induction l with
  | nil => intro _; rfl
  | cons g l ih =>
   intro h
   rw [List.find?_cons, List.find?_cons, pre_sep (h g (by simp)) hs, ih fun g hg => h g (by simp [hg])]
 rw [this signsT signs_sep]
theorem sign_self : ∀ g ∈ signsT, signsT.find? (fun x => x.isPrefixOf g) = some g := by decide
theorem tok_first {x : UInt8} {q : Str} {k : Int} {t : Str} {m : Nat} (h : tok (x :: q) = .got k t m) : isP x = false := by
 cases hp : isP x with
 | false => rfl
 | true =>
  have hn := isP_no x hp
  unfold tok at h
  simp only [hn.2.2.1, hn.2.1, hn.2.2.2.2.2, Bool.false_eq_true, if_false] at h
  obtain ⟨h1, _, _, h4⟩ := sign_mem h
  cases t with
  | nil => exact absurd h1 (by decide)
  | cons c t =>
   have h5 := signs_sep _ h1 c (by simp)
   have h6 : (c :: t).isPrefixOf (x :: q) = true := h4
   simp only [List.isPrefixOf, Bool.and_eq_true, beq_iff_eq] at h6
   rw [h6.1, hp] at h5; cases h5
theorem tok_small {r : Str} {k : Int} {t : Str} {m : Nat} (h : tok r = .got k t m) : t.length ≤ 80 := by
 unfold tok at h
 split at h
 ·cases h
 ·next x q =>
  split at h
  ·unfold nameT at h
   split at h
   ·cases h
   ·cases h; omega
  ·split at h
   ·next hg =>
    rcases num_split (q := q) hg with ⟨A, D, e, hA, h0, hD, hdot⟩ | ⟨A, B, D, e, hA, h0, hB, h1, hD⟩
    ·rw [e, num_one hA h0 hD hdot] at h
     split at h
     ·cases h
     ·split at h
      ·cases h
      ·cases h; omega
    ·rw [e, num_two hA h0 hB h1 hD] at h
     split at h
     ·cases h
     ·split at h
      ·cases h
      ·cases h; simp; omega
   ·split at h
    ·unfold textT at h
     split at h
     ·cases h
     ·split at h
      ·cases h
      ·cases h; omega
    ·obtain ⟨h1, _, _, _⟩ := sign_mem h
     have : ∀ g ∈ signsT, g.length ≤ 80 := by decide
     exact this t h1
theorem tok_sep {x : UInt8} {q : Str} {k : Int} {t : Str} {m : Nat} (h : tok (x :: q) = .got k t m) : wrt k t = (x :: q).take m ∧ ∀ rest, Sep rest → tok ((x :: q).take m ++ rest) = .got k t m := by
 have hm := tok_pos h
 have key : ∀ w : Str, w = (x :: q).take m → ∃ w', w = x :: w' := by
  intro w hw
  obtain ⟨n, rfl⟩ : ∃ n, m = n + 1 := ⟨m - 1, by omega⟩
  exact ⟨_, hw⟩
 unfold tok at h
 simp only at h
 by_cases hl : isL x = true
 ·rw [if_pos hl] at h
  have ht : t = (x :: q).take m ∧ m = t.length ∧ (k = 1 ∨ k = 2) ∧ t = (x :: q).takeWhile isN ∧ nameT (x :: q) = .got k t m := by
   refine (fun h' => ?_) h
   unfold nameT at h
   split at h
   ·cases h
   ·cases h
    refine ⟨(take_tw isN _).symm, rfl, ?_, rfl, h'⟩
    split <;> simp
  obtain ⟨h1, h2, h3, h4, h5⟩ := ht
  refine ⟨?_, fun rest hr => ?_⟩
  ·unfold wrt
   rw [if_neg (by omega)]; exact h1
  ·rw [← h1]
   obtain ⟨w', hw⟩ := key t h1
   have e1 : tok (t ++ rest) = nameT (t ++ rest) := by
    rw [hw, List.cons_append, tok]; rw [if_pos hl]
   have ha : ∀ y ∈ t, isN y = true := by rw [h4]; exact tw_all _
   rw [e1, nameT_app ha (name_sep hr)]
   rw [nameT, ← h4] at h5
   exact h5
 ·rw [if_neg hl] at h
  by_cases hg : isD x = true
  ·rw [if_pos hg] at h
   rcases num_split (q := q) hg with ⟨A, D, e, hA, h0, hD, hdot⟩ | ⟨A, B, D, e, hA, h0, hB, h1, hD⟩
   ·rw [e, num_one hA h0 hD hdot] at h
    split at h
    ·cases h
    ·next h40 =>
     split at h
     ·cases h
     ·next hz =>
      cases h
      have et : (x :: q).take t.length = t := by rw [e, List.take_left]
      rw [et]
      refine ⟨rfl, fun rest hr => ?_⟩
      obtain ⟨w', hw⟩ := key t et.symm
      have e1 : tok (t ++ rest) = numT (t ++ rest) := by
       rw [hw, List.cons_append, tok]; rw [if_neg hl, if_pos hg]
      rw [e1, num_one hA h0 (digit_sep hr) (dot_sep hr), if_neg h40, if_neg]
      rw [lu_sep hr]
      simp only [Bool.or_eq_true, not_or] at hz
      simp [hz.1]
   ·rw [e, num_two hA h0 hB h1 hD] at h
    split at h
    ·cases h
    ·next h40 =>
     split at h
     ·cases h
     ·next hz =>
      cases h
      have et : (x :: q).take (A.length + 1 + B.length) = A ++ 46 :: B := by
       have el : A ++ 46 :: (B ++ D) = (A ++ 46 :: B) ++ D := by simp
       have en : A.length + 1 + B.length = (A ++ 46 :: B).length := by simp; omega
       rw [e, el, en, List.take_left]
      rw [et]
      refine ⟨rfl, fun rest hr => ?_⟩
      obtain ⟨w', hw⟩ := key _ et.symm
      have e1 : tok (A ++ 46 :: B ++ rest) = numT (A ++ 46 :: B ++ rest) := by
       rw [hw, List.cons_append, tok]; rw [if_neg hl, if_pos hg]
      have e2 : A ++ 46 :: B ++ rest = A ++ 46 :: (B ++ rest) := by simp
      rw [e1, e2, num_two hA h0 hB h1 (digit_sep hr), if_neg h40, if_neg]
      rw [lu_sep hr]
      simp only [Bool.or_eq_true, not_or] at hz
      simp [hz.1]
  ·rw [if_neg hg] at h
   by_cases hb : x = 34
   ·rw [if_pos hb] at h
    subst hb
    unfold textT at h
    simp only [List.drop_succ_cons, List.drop_zero] at h
    cases hz : textG q with
    | none => rw [hz] at h; cases h
    | some z =>
     rw [hz] at h
     simp only at h
     obtain ⟨h1, h2, h3⟩ := textG_inv q z hz
     split at h
     ·cases h
     ·next h80 =>
      cases h
      have et : (34 :: q).take (z.2 + 1) = 34 :: (esc z.1 ++ [34]) := by rw [List.take_succ_cons, h2]
      rw [et]
      refine ⟨rfl, fun rest hr => ?_⟩
      rw [List.cons_append, tok]
      simp only
      rw [if_neg hl, if_neg hg, if_pos trivial]
      unfold textT
      simp only [List.drop_succ_cons, List.drop_zero]
      rw [List.append_assoc, List.singleton_append, textG_esc h1, ← h3]
      simp only
      rw [if_neg h80]
   ·rw [if_neg hb] at h
    obtain ⟨h1, h2, h3, h4⟩ := sign_mem h
    have et := (pre_take.1 h4).2
    rw [← h2] at et
    rw [et]
    refine ⟨by unfold wrt; rw [if_neg (by omega)], fun rest hr => ?_⟩
    obtain ⟨w', hw⟩ := key t et.symm
    have e1 : tok (t ++ rest) = signT (t ++ rest) := by
     rw [hw, List.cons_append, tok]; rw [if_neg hl, if_neg hg, if_neg hb]
    rw [e1, sign_sep hr, signT, sign_self t h1, h3, h2]
end Go.Proofs.YtbcdabflmkgkiaaGreatDoor

namespace Go.Proofs.YtbcdabflmkgkiaaGreatDoor
open Go Go.Sk
set_option linter.unusedVariables false
set_option linter.unusedSimpArgs false
def possB (K : Int) (S : Str) : Bool := match tok (wrt K S) with
 | .bad _ => false
 | .got k t n => decide (k = K) && decide (t = S) && decide (n = (wrt K S).length)
theorem possB_iff {K : Int} {S : Str} : possB K S = true ↔ tok (wrt K S) = .got K S (wrt K S).length := by
 unfold possB
 cases h : tok (wrt K S) with
 | bad e => simp
 | got k t n =>
  constructor
  ·intro h2
   simp only [Bool.and_eq_true, decide_eq_true_eq] at h2
   rw [h2.1.1, h2.1.2, h2.2]
  ·intro h2
   injection h2 with h1 h2 h3
   simp [h1, h2, h3]
theorem tok_poss {x : UInt8} {q : Str} {k : Int} {t : Str} {m : Nat} (h : tok (x :: q) = .got k t m) : possB k t = true := by
 obtain ⟨h1, h2⟩ := tok_sep h
 have h3 := h2 [] sep_nil
 have hm := tok_pos h
 rw [List.append_nil, ← h1] at h3
 rw [possB_iff, h3]
 congr 1
 rw [h1, List.length_take, List.length_cons]; omega
theorem poss_cons {K : Int} {S : Str} (h : possB K S = true) : ∃ x q, wrt K S = x :: q ∧ isP x = false := by
 have h := possB_iff.1 h
 cases hw : wrt K S with
 | nil => rw [hw] at h; cases h
 | cons x q =>
  rw [hw] at h
  exact ⟨x, q, rfl, tok_first h⟩
theorem poss_small {K : Int} {S : Str} (h : possB K S = true) : S.length ≤ 80 := tok_small (possB_iff.1 h)
theorem sk_tok {x : UInt8} {q : Str} (h : isP x = false) : sk false (x :: q) = x :: q := by
 unfold isP at h
 simp only [Bool.or_eq_false_iff, decide_eq_false_iff_not] at h
 rw [sk, if_neg (by simp [h.1]), if_neg h.2]
theorem poss_lx {K : Int} {S : Str} (h : possB K S = true) : Lx 0 (wrt K S) (.inl [⟨K, 0, S⟩]) := by
 obtain ⟨x, q, hw, hx⟩ := poss_cons h
 have h2 := possB_iff.1 h
 rw [hw] at h2 ⊢
 have hd : Lx (0 + (x :: q).length) ((x :: q).drop (x :: q).length) (.inl []) := by
  rw [List.drop_length]; exact .done rfl
 exact Lx.one (k := 0) (j := 0) (sk_tok hx) (by simp) h2 hd
theorem sk_len_eq {r : Str} {c : Bool} (h : (sk c r).length = r.length) : sk c r = r := by
 have := sk_drop r c
 rw [h, Nat.sub_self] at this
 rw [this]; rfl
theorem lx_poss {K : Int} {S w : Str} (hw : w = wrt K S) (h : Lx 0 w (.inl [⟨K, 0, S⟩])) : possB K S = true := by
 generalize hr : (Sum.inl [⟨K, 0, S⟩] : List Token ⊕ Problem) = res at h
 cases h with
 | done => cases hr
 | bad => cases hr
 | err => cases hr
 | @one _ j _ q b kd t m l h1 hj ht hl =>
  injection hr with hr
  injection hr with hr1 hr2
  injection hr1 with e1 e2 e3
  have hj0 : j = 0 := by omega
  subst hj0
  have e : sk false w = w := sk_len_eq (by rw [h1]; simp only [List.length_cons]; omega)
  rw [h1] at e
  rw [← e1, ← e3] at ht
  exact tok_poss ht
theorem possible_ok {F : Nat} {t : Token} (hF : t.S.length + 200000 < F) (hs : t.S.length ≤ 40000000) : lexer_possible_S F t = some (possB t.Kind t.S) := by
 unfold lexer_possible_S
 rw [written_ok (by omega) (by omega), Option.bind_some]
 have hwl := wrt_len t.Kind t.S
 by_cases hlen : (wrt t.Kind t.S).length ≤ 100000
 ·obtain ⟨res, hres⟩ := Lx.total _ 0 (wrt t.Kind t.S) (Nat.le_refl _)
  rw [tokens_ok hlen (by omega) hres, Option.bind_some]
  cases hp : possB t.Kind t.S with
  | true =>
   have := Lx.det hres (poss_lx hp)
   subst this
   simp only [outP, un2]
   rw [show idx? [(⟨t.Kind, 0, t.S⟩ : Token)] 0 = some ⟨t.Kind, 0, t.S⟩ from rfl]
   simp [gcall]
  | false =>
   have hne : ¬ (outP res = ([⟨t.Kind, 0, t.S⟩], ⟨0, 0⟩)) := by
    intro h
    cases res with
    | inl l =>
     have h1 : l = [⟨t.Kind, 0, t.S⟩] := congrArg Prod.fst h
     rw [h1] at hres
     rw [lx_poss rfl hres] at hp; cases hp
    | inr p =>
     have h1 : ([] : List Token) = [⟨t.Kind, 0, t.S⟩] := congrArg Prod.fst h
     cases h1
   generalize outP res = o at hne
   obtain ⟨l, p⟩ := o
   simp only [un2]
   by_cases hc : p = ⟨0, 0⟩ ∧ (l.length : Int) = 1
   ·have e0 : (decide (p = (⟨0, 0⟩ : Problem)) && decide ((l.length : Int) = 1)) = true := by simp [hc]
    obtain ⟨x, hl⟩ : ∃ x, l = [x] := List.length_eq_one_iff.1 (by omega)
    subst hl
    rw [e0, show idx? [x] 0 = some x from rfl]
    simp only [gcall, if_true, Option.bind_some, Bool.true_and]
    congr 1
    simp only [decide_eq_false_iff_not]
    intro hx
    exact hne (by rw [hx, hc.1])
   ·have e0 : (decide (p = (⟨0, 0⟩ : Problem)) && decide ((l.length : Int) = 1)) = false := by
     simp only [Bool.and_eq_false_iff, decide_eq_false_iff_not]
     by_cases h1 : p = ⟨0, 0⟩
     ·exact .inr fun h2 => hc ⟨h1, h2⟩
     ·exact .inl h1
    rw [e0]
    simp [gcall]
 ·have hp : possB t.Kind t.S = false := by
   cases hp : possB t.Kind t.S with
   | false => rfl
   | true => have := poss_small hp; omega
  rw [hp]
  have e1 : lexer_Tokens_S F (wrt t.Kind t.S) = some ([], ⟨0, 2⟩) := by
   unfold lexer_Tokens_S
   rw [if_pos (decide_eq_true (by omega))]
  rw [e1, Option.bind_some]
  rfl
def wt (t : Token) : Str := wrt t.Kind t.S
def tail28 (l : List Token) : Str := (l.map fun t => 32 :: wt t).flatten
def join28 : List Token → Str
 | [] => []
 | t :: l => wt t ++ tail28 l
def sz (l : List Token) : Nat := (l.map fun t => (wt t).length + 1).sum
theorem sz_app (a b : List Token) : sz (a ++ b) = sz a + sz b := by unfold sz; rw [List.map_append, List.sum_append]
theorem sz_cons (t : Token) (l : List Token) : sz (t :: l) = (wt t).length + 1 + sz l := rfl
theorem tail_len (l : List Token) : (tail28 l).length = sz l := by
 induction l with
 | nil => rfl
 | cons t l ih =>
  unfold tail28 sz at *
  simp only [List.map_cons, List.flatten_cons, List.length_append, List.length_cons, List.sum_cons, ih]
theorem join_len (t : Token) (l : List Token) : (join28 (t :: l)).length + 1 = sz (t :: l) := by
 unfold join28
 rw [List.length_append, tail_len, sz_cons]; omega
theorem join_lib (l : List Token) : Lib.join (l.map wt) [32] = join28 l := by
 cases l with
 | nil => rfl
 | cons t l =>
  rw [List.map_cons, Lib.join_cons]
  unfold join28 tail28 Lib.joinTail
  rw [List.map_map]
  rfl
def allP (l : List Token) : Bool := l.all fun t => possB t.Kind t.S
theorem sz_small {l : List Token} (h : allP l = true) : sz l ≤ 163 * l.length := by
 induction l with
 | nil => exact Nat.le_refl 0
 | cons t l ih =>
  unfold allP at h ih
  rw [List.all_cons, Bool.and_eq_true] at h
  have h1 := poss_small h.1
  have h2 := wrt_len t.Kind t.S
  have := ih h.2
  rw [sz_cons, List.length_cons]
  unfold wt; omega
def textV (l : List Token) : Str × Int := if allP l = true then (if 100001 < sz l then ([], 2) else (join28 l, 0)) else ([], 1)
theorem allP_app (a b : List Token) : allP (a ++ b) = (allP a && allP b) := List.all_append
theorem allP_one (t : Token) : allP [t] = possB t.Kind t.S := by simp [allP]
theorem text_ok' {F : Nat} {l : List Token} (hl : l.length ≤ 100000) (hF : ∀ t ∈ l, t.S.length + 200000 < F) (hF2 : 200000 < F) (hs : ∀ t ∈ l, t.S.length ≤ 40000000) : lexer_Text_S F l = some (textV l) := by
 unfold lexer_Text_S
 refine Yld.eq (Yld.bind (Yld.ea3 (l := l) (Q := fun o : (List Str × Int) ⊕ (Str × Int) => (allP l = true ∧ o = .inl (l.map wt, (sz l : Int) - 1)) ∨ (allP l = false ∧ o = .inr ([], 1))) (fun pre a b => allP pre = true ∧ a = pre.map wt ∧ b = (sz pre : Int) - 1) (by omega) (by omega) ⟨rfl, rfl, rfl⟩ (fun pre x post a b e hx hI => ?_) (fun a b hI => .inl ⟨hI.1, by rw [hI.2.1, hI.2.2]⟩)) (fun o ho => ?_))
 ·obtain ⟨h1, rfl, rfl⟩ := hI
  have hm : x ∈ l := by rw [e]; simp
  have hlen : pre.length + post.length + 1 = l.length := by rw [e]; simp; omega
  rw [hx, Option.bind_some, possible_ok (hF x hm) (hs x hm), Option.bind_some]
  cases hp : possB x.Kind x.S with
  | false =>
   rw [if_pos (by rfl)]
   refine Yld.some (.inr ⟨_, rfl, .inr ⟨?_, rfl⟩⟩)
   rw [e, allP_app, show x :: post = [x] ++ post from rfl, allP_app, allP_one, hp]; simp
  | true =>
   have h2 := sz_small h1
   have h3 := poss_small hp
   have h4 := wrt_len x.Kind x.S
   have hF3 := hF x hm
   rw [if_neg (by simp), written_ok (by omega) (by omega), Option.bind_some, app?_eq (by simp; omega), Option.bind_some]
   have e1 : ((pre.map wt ++ [wrt x.Kind x.S]).length : Int) - 1 = (pre.length : Int) := by simp
   have e2 : idx? (pre.map wt ++ [wrt x.Kind x.S]) (pre.length : Int) = some (wrt x.Kind x.S) := by
    have := idx?_at (pre.map wt) [] (wrt x.Kind x.S)
    rw [List.length_map] at this
    exact this
   simp only [letN]
   rw [e1, wr (z := (pre.length : Int)) (by omega) (by omega), e2, Option.bind_some, wr (z := ((wrt x.Kind x.S).length : Int) + 1) (by omega) (by omega)]
   refine Yld.some (.inl ⟨_, _, rfl, ?_, ?_, ?_⟩)
   ·rw [allP_app, allP_one, h1, hp]; rfl
   ·rw [List.map_append]; rfl
   ·rw [sz_app, show sz [x] = (wt x).length + 1 from rfl]
    unfold wt
    rw [wi64' (by omega) (by omega)]
    omega
 ·unfold textV
  rcases ho with ⟨h, rfl⟩ | ⟨h, rfl⟩
  ·rw [if_pos h]
   simp only [alt2, un2]
   by_cases h2 : 100001 < sz l
   ·rw [if_pos h2, if_pos (decide_eq_true (by omega))]
    exact Yld.some rfl
   ·rw [if_neg h2, if_neg (by simp; omega)]
    have hj : strings_Join_S F (l.map wt) [32] = some (join28 l) := by
     unfold strings_Join_S join?
     rw [join_lib, if_pos]
     refine ⟨by simp; omega, ?_⟩
     cases l with
     | nil => simp [join28]
     | cons t l => have := join_len t l; omega
    rw [hj]
    exact Yld.some rfl
  ·rw [h, if_neg (by simp)]
   exact Yld.some rfl
end Go.Proofs.YtbcdabflmkgkiaaGreatDoor

namespace Go.Proofs.YtbcdabflmkgkiaaGreatDoor
open Go.Sk
theorem sanity_ok : skewbacklaw28_sanity_S 2000000 = some true := by decide +kernel
end Go.Proofs.YtbcdabflmkgkiaaGreatDoor

namespace Go.Proofs.YtbcdabflmkgkiaaGreatDoor
open Go Go.Sk
set_option linter.unusedVariables false
set_option linter.unusedSimpArgs false
theorem idx_ofStr {s : Str} {k : Nat} {b : UInt8} {r : Str} (h : s.drop k = b :: r) : idx? (ofStr s) (k : Int) = some (b.toNat : Int) := by
 have hk := drop_lt h
 have hl := ofStr_len s
 rw [idx?_eq (by omega) (by omega), idx_nat _ _ (by omega)]
 have h2 := List.drop_eq_getElem_cons hk
 rw [h] at h2
 injection h2 with h3 h4
 congr 1
 unfold ofStr
 rw [List.getElem_map, ← h3]
theorem ne_byte (b : UInt8) (n : Nat) (hn : n < 256) : decide ((b.toNat : Int) ≠ (n : Int)) = !decide (b = UInt8.ofNat n) := by rw [decide_not, toNat_eq b n hn]
theorem text_one {t : Token} (h : possB t.Kind t.S = true) : textV [t] = (wt t, 0) := by
 unfold textV
 have h2 := poss_small h
 have h3 := wrt_len t.Kind t.S
 have h4 : sz [t] = (wt t).length + 1 := rfl
 rw [if_pos (by rw [allP_one]; exact h), if_neg (by unfold wt at h4; omega)]
 simp [join28, tail28]
theorem tokens_long {F : Nat} {s : Str} (h : 100000 < s.length) : lexer_Tokens_S F s = some ([], ⟨0, 2⟩) := by
 unfold lexer_Tokens_S
 rw [if_pos (decide_eq_true (by omega))]
theorem lx_prob {k : Nat} {r : Str} {p : Problem} (h : Lx k r (.inr p)) : p.E = 2 ∨ p.E = 280 ∨ p.E = 281 := by
 generalize hres : (Sum.inr p : List Token ⊕ Problem) = res at h
 induction h with
 | done => cases hres
 | bad _ _ ht => cases hres; exact tok_bad ht
 | err _ _ _ _ ih => cases hres; exact ih rfl
 | one => cases hres
end Go.Proofs.YtbcdabflmkgkiaaGreatDoor

namespace Go.Proofs.YtbcdabflmkgkiaaGreatDoor
open Go Go.Sk
set_option linter.unusedVariables false
set_option linter.unusedSimpArgs false
def comb : List Token ⊕ Problem → List Token ⊕ Problem → List Token ⊕ Problem
 | .inr p, _ => .inr p
 | .inl l, .inl m => .inl (l ++ m)
 | .inl _, .inr p => .inr p
def up (d : Nat) (x : Token) : Token := ⟨x.Kind, x.At + (d : Int), x.S⟩
theorem lx_count {k : Nat} {r : Str} {res : List Token ⊕ Problem} (h : Lx k r res) : ∀ l, res = .inl l → l.length ≤ r.length := by
 induction h with
 | done => intro l e; cases e; simp
 | bad => intro l e; cases e
 | err => intro l e; cases e
 | @one k j r q b kd t m l2 h1 hj ht hl ih =>
  intro l e
  cases e
  have h5 := ih l2 rfl
  have h6 := tok_pos ht
  have h7 := sk_len r false
  rw [h1] at h7
  simp only [List.length_drop, List.length_cons] at *
  omega
end Go.Proofs.YtbcdabflmkgkiaaGreatDoor

namespace Go.Proofs.YtbcdabflmkgkiaaGreatDoor
open Go Go.Sk
set_option linter.unusedVariables false
set_option linter.unusedSimpArgs false
def mix : List (Str × Token) → Str
 | [] => []
 | p :: l => p.1 ++ (wt p.2 ++ mix l)
def Gap (g : Str) : Prop := ∀ x q, isP x = false → sk false (g ++ x :: q) = x :: q
def SepG (g : Str) : Prop := ∃ c q, g = c :: q ∧ isP c = true
def key (t : Token) : Int × Str := (t.Kind, t.S)
theorem mix_sep {l : List (Str × Token)} (h : ∀ p ∈ l, SepG p.1) : Sep (mix l) := by
 cases l with
 | nil => exact sep_nil
 | cons p l =>
  obtain ⟨c, q, e, hc⟩ := h p (by simp)
  unfold mix
  rw [e]
  exact sep_cons hc
theorem mix_lx : ∀ (ps : List (Str × Token)), (∀ p ∈ ps, Gap p.1 ∧ possB p.2.Kind p.2.S = true) → (∀ p ∈ ps.tail, SepG p.1) → ∀ k, ∃ m, Lx k (mix ps) (.inl m) ∧ m.map key = ps.map fun p => key p.2
 | [], _, _, k => ⟨[], .done rfl, rfl⟩
 | p :: l, h1, h2, k => by
  obtain ⟨hg, hp⟩ := h1 p (by simp)
  obtain ⟨x, q, hw, hx⟩ := poss_cons hp
  have ht := possB_iff.1 hp
  rw [hw] at ht
  have hsep := mix_sep (l := l) fun p hp => h2 p hp
  have ht2 := (tok_sep ht).2 (mix l) hsep
  rw [List.take_length] at ht2
  have e1 : mix (p :: l) = p.1 ++ x :: (q ++ mix l) := by
   rw [mix]
   unfold wt
   rw [hw]; rfl
  have hs := hg x (q ++ mix l) hx
  have hj : k + (mix (p :: l)).length = (k + p.1.length) + ((q ++ mix l).length + 1) := by rw [e1]; simp; omega
  obtain ⟨m, hm, hk⟩ := mix_lx l (fun p hp => h1 p (by simp [hp])) (fun p hp => h2 p (List.mem_of_mem_tail hp)) (k + p.1.length + (x :: q).length)
  refine ⟨⟨p.2.Kind, ((k + p.1.length : Nat) : Int), p.2.S⟩ :: m, ?_, ?_⟩
  ·refine Lx.one (j := k + p.1.length) (b := x) (q := q ++ mix l) (m := (x :: q).length) (by rw [e1]; exact hs) hj ht2 ?_
   have : (x :: (q ++ mix l)).drop (x :: q).length = mix l := by
    rw [← List.cons_append, List.drop_left]
   rw [this]; exact hm
  ·simp only [List.map_cons, hk]
   rfl
theorem lx_all {k : Nat} {r : Str} {res : List Token ⊕ Problem} (h : Lx k r res) : ∀ l, res = .inl l → allP l = true ∧ sz l ≤ 2 * r.length := by
 induction h with
 | done => intro l e; cases e; exact ⟨rfl, Nat.zero_le _⟩
 | bad => intro l e; cases e
 | err => intro l e; cases e
 | @one k j r q b kd t m l2 h1 hj ht hl ih =>
  intro l e
  cases e
  obtain ⟨h5, h8⟩ := ih l2 rfl
  have h6 := tok_pos ht
  have h7 := sk_len r false
  rw [h1] at h7
  have hp := tok_poss ht
  have hw : (wrt kd t).length = m := by rw [(tok_sep ht).1, List.length_take, List.length_cons]; omega
  refine ⟨?_, ?_⟩
  ·unfold allP at h5 ⊢
   rw [List.all_cons, h5, hp]; rfl
  ·rw [sz_cons]
   unfold wt
   simp only [List.length_drop, List.length_cons] at *
   omega
theorem same_ok {F : Nat} {a b : List Token} (hk : a.map key = b.map key) (hF : a.length < F) (hl : a.length ≤ 100000000) : skewbackref28_Same_S F a b = some true := by
 unfold skewbackref28_Same_S
 have hlen : a.length = b.length := by
  have := congrArg List.length hk
  simpa using this
 rw [if_neg (by simp; omega)]
 refine Yld.eq (Yld.bind (Yld.ea1 (l := a) (Q := fun o : Unit ⊕ Bool => o = .inl ()) (fun pre => True) hF (by omega) trivial (fun pre x post e hx hI => ?_) (fun _ => rfl)) (fun o ho => ?_))
 ·have hpl : pre.length < a.length := by rw [e]; simp
  have hb : ∃ y, idx? b (pre.length : Int) = some y ∧ key y = key x := by
   have h1 := ix_get hx
   refine ⟨idx b (pre.length : Int), idx?_eq (by omega) (by omega), ?_⟩
   have h2 := idx_eq (xs := b) (i := (pre.length : Int)) (by omega) (by omega)
   have h3 : (a.map key)[pre.length]? = (b.map key)[pre.length]? := by rw [hk]
   rw [Int.toNat_natCast] at h1 h2
   rw [List.getElem?_map, List.getElem?_map, h1, h2] at h3
   simp only [Option.map_some, Option.some.injEq] at h3
   exact h3.symm
  obtain ⟨y, hy, hyx⟩ := hb
  unfold key at hyx
  injection hyx with e1 e2
  rw [hx]
  simp only [Option.bind_some, hy]
  have e3 : decide (x.Kind ≠ y.Kind) = false := by simp [e1]
  rw [e3]
  simp only [Bool.not_false, gcall, if_true, Option.bind_some, Bool.false_or]
  rw [if_neg (by simp [e2])]
  exact Yld.some (.inl ⟨rfl, trivial⟩)
 ·subst ho; exact Yld.some rfl
def blankV : Str → Bool
 | [] => true
 | b :: r => if b = 35 then r.all (fun c => !decide (c = 10)) else if isS b then blankV r else false
theorem blank_sk : ∀ (g : Str), blankV g = true → ∀ X, sk false (g ++ 10 :: X) = sk false X
 | [], _, X => rfl
 | b :: r, h, X => by
  rw [blankV] at h
  rw [List.cons_append]
  by_cases h35 : b = 35
  ·rw [if_pos h35] at h
   subst h35
   have key : ∀ r : Str, r.all (fun c => !decide (c = 10)) = true → sk true (r ++ 10 :: X) = sk false X := by
    intro r
    induction r with
    | nil => intro _; rfl
    | cons c r ih =>
     intro h
     rw [List.all_cons, Bool.and_eq_true] at h
     rw [List.cons_append, sk, if_neg (by simpa using h.1)]
     exact ih h.2
   exact key r h
  ·rw [if_neg h35] at h
   by_cases hS : isS b = true
   ·rw [if_pos hS] at h
    rw [sk, if_pos hS]
    exact blank_sk r h X
   ·rw [if_neg hS] at h; cases h
theorem blank_gap {g : Str} (h : blankV g = true) : Gap (g ++ [10]) ∧ SepG (g ++ [10]) := by
 refine ⟨fun x q hx => ?_, ?_⟩
 ·rw [List.append_assoc, List.singleton_append, blank_sk g h, sk_tok hx]
 ·cases g with
  | nil => exact ⟨10, [], rfl, rfl⟩
  | cons b r =>
   refine ⟨b, r ++ [10], rfl, ?_⟩
   rw [blankV] at h
   unfold isP
   by_cases h35 : b = 35
   ·simp [h35]
   ·rw [if_neg h35] at h
    by_cases hS : isS b = true
    ·simp [hS]
    ·rw [if_neg hS] at h; cases h
theorem blank_ok {F : Nat} {g : Str} (hF : g.length < F) (hs : g.length ≤ 100000000) : skewbacklaw28_blank_S F g = some (blankV g) := by
 unfold skewbacklaw28_blank_S
 refine Yld.eq (Yld.bind (iter_yld (fun k : Nat => (k : Int)) (fun k => g.length - k) (fun k => k ≤ g.length) (fun k t => alt2 (fun _ => some true) (fun y => some y) t = some (blankV (g.drop k))) ?_ F 0 (by simp) (by omega)) fun t ht => ⟨_, ht, rfl⟩)
 intro k hk
 cases hd : g.drop k with
 | nil =>
  have hend := drop_nil hd hk
  rw [if_neg (by simp; omega)]
  exact .inr ⟨_, rfl, rfl⟩
 | cons b r =>
  have hlt := drop_lt hd
  have hds := drop_succ hd
  have hi := idx_drop hd
  rw [if_pos (decide_eq_true (by omega)), hi, Option.bind_some, b35]
  have n10 : decide ((b.toNat : Int) ≠ 10) = !decide (b = 10) := ne_byte b 10 (by decide)
  have n32 : decide ((b.toNat : Int) ≠ 32) = !decide (b = 32) := ne_byte b 32 (by decide)
  have n9 : decide ((b.toNat : Int) ≠ 9) = !decide (b = 9) := ne_byte b 9 (by decide)
  have n13 : decide ((b.toNat : Int) ≠ 13) = !decide (b = 13) := ne_byte b 13 (by decide)
  by_cases h35 : b = 35
  ·subst h35
   rw [if_pos (by decide)]
   have e1 : drop? g (k : Int) = some (35 :: r) := by
    unfold drop?
    rw [if_pos ⟨by omega, by omega⟩, Int.toNat_natCast, hd]
   rw [e1, Option.bind_some]
   have hrl : r.length + 1 ≤ g.length := by
    have := congrArg List.length hd
    rw [List.length_drop, List.length_cons] at this; omega
   have inner : Yld (iter F (fun x_4 : Int => if (decide (x_4 < ((ofStr (35 :: r)).length : Int))) = true then (Option.bind (idx? (ofStr (35 :: r)) x_4) (fun x_5 => if (decide (x_5 = 10)) = true then (some (.inr (.inr false))) else (some (.inl (IntKind.i64.wrap (x_4 + 1)))))) else (some (.inr (.inl ())))) 0) (fun o : Unit ⊕ Bool => alt2 (fun _ => true) (fun y => y) o = r.all fun c => !decide (c = 10)) := by
    refine (iter_yld (fun i : Nat => (i : Int)) (fun i => (35 :: r).length - i) (fun i => i ≤ (35 :: r).length) (fun i t => alt2 (fun _ => true) (fun y => y) t = ((35 :: r).drop i).all fun c => !decide (c = 10)) ?_ F 0 (by simp) (by simp; omega))
    intro i hi
    rw [ofStr_len]
    cases hd2 : (35 :: r).drop i with
    | nil =>
     have hend := drop_nil hd2 hi
     rw [if_neg (by rw [hend]; simp)]
     exact .inr ⟨_, rfl, rfl⟩
    | cons c q =>
     have hlt2 := drop_lt hd2
     have hds2 := drop_succ hd2
     rw [if_pos (decide_eq_true (by omega)), idx_ofStr hd2, Option.bind_some, show decide ((c.toNat : Int) = 10) = decide (c = 10) from toNat_eq c 10 (by decide)]
     by_cases hc : c = 10
     ·rw [if_pos (by simpa using hc)]
      exact .inr ⟨_, rfl, by simp [alt2, hc]⟩
     ·rw [if_neg (by simpa using hc), wk i (by simp at hlt2; omega)]
      refine .inl ⟨i + 1, rfl, by omega, by omega, fun t ht => ?_⟩
      rw [ht, hds2, List.all_cons]
      simp [hc]
   obtain ⟨o, ho, hq⟩ := inner
   rw [ho]
   refine .inr ⟨.inr (r.all fun c => !decide (c = 10)), ?_, ?_⟩
   ·rw [← hq]
    cases o with
    | inl u => rfl
    | inr y => rfl
   ·rw [blankV, if_pos rfl]
  ·rw [if_neg (by simpa using h35)]
   simp only [alt2, Option.bind_some, hi, letN, n32, n9, n10, n13]
   by_cases hS : isS b = true
   ·have e : ∀ (G1 G2 : Bool), (gcall G1 (some b)).isSome ∧ (gcall G2 (some b)).isSome := fun G1 G2 => by cases G1 <;> cases G2 <;> exact ⟨rfl, rfl⟩
    refine .inl ⟨k + 1, ?_, by omega, by omega, fun t ht => by rw [ht, hds]; conv => rhs; rw [blankV, if_neg h35, if_pos hS]⟩
    unfold isS at hS
    rw [wk k (by omega)]
    rcases Bool.eq_false_or_eq_true (decide (b = 32)) with h1 | h1 <;> rcases Bool.eq_false_or_eq_true (decide (b = 9)) with h2 | h2 <;> rcases Bool.eq_false_or_eq_true (decide (b = 10)) with h3 | h3 <;> rcases Bool.eq_false_or_eq_true (decide (b = 13)) with h4 | h4 <;> simp only [h1, h2, h3, h4, Bool.or_self, Bool.or_true, Bool.or_false, Bool.true_or, Bool.false_or] at hS <;> first | (cases hS; done) | (simp only [gcall, n32, n9, n10, n13, h1, h2, h3, h4, Bool.not_true, Bool.not_false, Bool.and_self, Bool.and_true, Bool.true_and, Bool.false_and, Bool.and_false, if_true, Bool.false_eq_true, if_false, Option.bind_some])
   ·refine .inr ⟨.inr false, ?_, by simp only [alt2]; rw [blankV, if_neg h35, if_neg hS]⟩
    unfold isS at hS
    simp only [Bool.or_eq_true, decide_eq_true_eq, not_or] at hS
    have h1 := decide_eq_false hS.1.1.1
    have h2 := decide_eq_false hS.1.1.2
    have h3 := decide_eq_false hS.1.2
    have h4 := decide_eq_false hS.2
    simp only [gcall, n32, n9, n10, n13, h1, h2, h3, h4, Bool.not_true, Bool.not_false, Bool.and_self, Bool.and_true, Bool.true_and, if_true, Bool.false_eq_true, if_false, Option.bind_some]
end Go.Proofs.YtbcdabflmkgkiaaGreatDoor

namespace Go.Proofs.YtbcdabflmkgkiaaGreatDoor
open Go Go.Sk
set_option linter.unusedVariables false
set_option linter.unusedSimpArgs false
theorem mix_app (a b : List (Str × Token)) : mix (a ++ b) = mix a ++ mix b := by
 induction a with
 | nil => rfl
 | cons p a ih => rw [List.cons_append, mix, mix, ih]; simp
theorem join_mix : ∀ l : List Token, join28 l = mix (match l with | [] => [] | t :: l => ([], t) :: l.map fun t => ([32], t))
 | [] => rfl
 | t :: l => by
  have h : ∀ l : List Token, tail28 l = mix (l.map fun t => ([32], t)) := by
   intro l
   induction l with
   | nil => rfl
   | cons x l ih =>
    rw [List.map_cons, mix, ← ih]
    unfold tail28
    simp
  rw [join28, h]; rfl
theorem join_lx {l : List Token} (h : allP l = true) : ∃ m, Lx 0 (join28 l) (.inl m) ∧ m.map key = l.map key := by
 rw [join_mix]
 have hp : ∀ t ∈ l, possB t.Kind t.S = true := fun t ht => List.all_eq_true.1 h t ht
 have g0 : Gap [] := fun x q hx => sk_tok hx
 have g1 : Gap [32] := fun x q hx => by rw [List.singleton_append, sk, if_pos (by decide), sk_tok hx]
 have s1 : SepG [32] := ⟨32, [], rfl, rfl⟩
 cases l with
 | nil => exact ⟨[], .done rfl, rfl⟩
 | cons t l =>
  obtain ⟨m, hm, hk⟩ := mix_lx (([], t) :: l.map fun t => ([32], t)) (by
   intro p hp2
   rcases List.mem_cons.1 hp2 with rfl | hp2
   ·exact ⟨g0, hp t (by simp)⟩
   ·obtain ⟨x, hx, rfl⟩ := List.mem_map.1 hp2
    exact ⟨g1, hp x (by simp [hx])⟩) (by
   intro p hp2
   obtain ⟨x, hx, rfl⟩ := List.mem_map.1 hp2
   exact s1) 0
  refine ⟨m, hm, ?_⟩
  rw [hk, List.map_cons, List.map_cons, List.map_map]
  rfl
theorem mix_len {l : List (Str × Token)} {n : Nat} (h : ∀ p ∈ l, p.1.length ≤ n ∧ possB p.2.Kind p.2.S = true) : (mix l).length ≤ l.length * (n + 162) := by
 induction l with
 | nil => exact Nat.zero_le _
 | cons p l ih =>
  have h1 := h p (by simp)
  have h2 := poss_small h1.2
  have h3 := wrt_len p.2.Kind p.2.S
  have := ih fun p hp => h p (by simp [hp])
  rw [mix, List.length_append, List.length_append, List.length_cons, Nat.add_mul]
  unfold wt
  omega
theorem forgets_law (s : Str) (gaps : List Str) (hs : s.length ≤ 1048576) (hg : ∀ g ∈ gaps, g.length ≤ 1048576) : skewbacklaw28_LexerForgetsSpaces_S 2000000 s gaps = some true := by
  unfold skewbacklaw28_LexerForgetsSpaces_S
  have hsan := sanity_ok
  by_cases hl : s.length ≤ 100000
  case neg =>
    rw [tokens_long (by omega), Option.bind_some]
    simp only [un2, letN]
    rw [decide_eq_true (show (3000 : Int) < (s.length : Int) by omega)]
    simp only [Bool.true_or, if_true]
    rw [hsan]; rfl
  obtain ⟨res, hres⟩ := Lx.total _ 0 s (Nat.le_refl _)
  rw [tokens_ok hl (by omega) hres, Option.bind_some]
  by_cases h3 : 3000 < s.length
  · simp only [un2, letN]
    rw [decide_eq_true (show (3000 : Int) < (s.length : Int) by omega)]
    simp only [Bool.true_or, if_true]
    rw [hsan]; rfl
  cases res with
  | inr p =>
    have := lx_prob hres
    rw [show outP (.inr p) = ([], p) from rfl]
    simp only [un2, letN]
    rw [show decide (p ≠ (⟨0, 0⟩ : Problem)) = true from decide_eq_true (by rintro rfl; simp at this)]
    simp only [Bool.or_true, Bool.true_or, if_true]
    rw [hsan]; rfl
  | inl l =>
    rw [show outP (.inl l) = (l, ⟨0, 0⟩) from rfl]
    simp only [un2, letN]
    rw [decide_eq_false (show ¬ (3000 : Int) < (s.length : Int) by omega), show decide ((⟨0, 0⟩ : Problem) ≠ (⟨0, 0⟩ : Problem)) = false from by simp]
    by_cases hg20 : 20 < gaps.length
    · rw [decide_eq_true (show (20 : Int) < (gaps.length : Int) by omega)]
      simp only [Bool.or_true, if_true]
      rw [hsan]; rfl
    rw [decide_eq_false (show ¬ (20 : Int) < (gaps.length : Int) by omega)]
    simp only [Bool.or_self, Bool.false_eq_true, if_false]
    obtain ⟨hall, hsz⟩ := lx_all hres l rfl
    have hcount := lx_count hres l rfl
    have hp : ∀ t ∈ l, possB t.Kind t.S = true := fun t ht => List.all_eq_true.1 hall t ht
    have hsm : ∀ t ∈ l, t.S.length ≤ 80 := fun t ht => poss_small (hp t ht)
    have htv : textV l = (join28 l, 0) := by
      unfold textV
      rw [if_pos hall, if_neg (by omega)]
    rw [text_ok' (by omega) (fun t ht => by have := hsm t ht; omega) (by omega) (fun t ht => by have := hsm t ht; omega), htv, Option.bind_some]
    simp only [un2]
    have hjl : (join28 l).length ≤ 6000 := by
      cases l with
      | nil => simp [join28]
      | cons t l => have := join_len t l; omega
    obtain ⟨m, hm, hmk⟩ := join_lx hall
    rw [tokens_ok (by omega) (by omega) hm, Option.bind_some, show outP (.inl m) = (m, ⟨0, 0⟩) from rfl]
    try simp only [un2]
    have hsame := same_ok (F := 2000000) (a := l) (b := m) hmk.symm (by omega) (by omega)
    rw [hsame]
    have e1 : (decide ((0 : Int) ≠ 0) || decide ((⟨0, 0⟩ : Problem) ≠ (⟨0, 0⟩ : Problem))) = false := by simp
    rw [e1]
    simp only [Bool.not_false, gcall, if_true, Option.bind_some, Bool.not_true, Bool.or_self, Bool.false_eq_true, if_false]
    refine Yld.eq (Yld.bind (Yld.ea2 (l := l) (Q := fun o : List Int ⊕ Bool => (∃ ps : List (Str × Token), ps.map (·.2) = l ∧ (∀ p ∈ ps, (Gap p.1 ∧ SepG p.1) ∧ p.1.length ≤ 1048577) ∧ o = .inl (ofStr (mix ps))) ∨ o = .inr true)
      (fun pre out => ∃ ps : List (Str × Token), ps.map (·.2) = pre ∧ (∀ p ∈ ps, (Gap p.1 ∧ SepG p.1) ∧ p.1.length ≤ 1048577) ∧ out = ofStr (mix ps)) (by omega) (by omega) ⟨[], rfl, by simp, rfl⟩ (fun pre x post out e hx hI => ?_) (fun out hI => ?_)) (fun o ho => ?_))
    · obtain ⟨ps, h1, h2, rfl⟩ := hI
      have hmem : x ∈ l := by rw [e]; simp
      have hpre : pre.length < l.length := by rw [e]; simp
      have hpl : ps.length = pre.length := by rw [← h1]; simp
      have hml := mix_len (l := ps) (n := 1048577) fun p hp2 => ⟨(h2 p hp2).2, hp p.2 (by rw [e, ← h1]; simp; exact .inl ⟨p.1, hp2⟩)⟩
      have hml2 : (mix ps).length ≤ 3000 * (1048577 + 162) := Nat.le_trans hml (Nat.mul_le_mul_right _ (by omega))
      rw [hx, Option.bind_some]
      have hgap : ∃ gap : Str, gap.length ≤ 1048576 ∧ (if decide ((0 : Int) < (gaps.length : Int)) = true then (Option.bind (rem? (pre.length : Int) (gaps.length : Int)) fun x_18 => Option.bind (idx? gaps x_18) fun x_19 => some x_19) else some [32]) = some gap := by
        by_cases h0 : 0 < gaps.length
        · have hr : (pre.length : Int).tmod (gaps.length : Int) = ((pre.length % gaps.length : Nat) : Int) := by rw [tmod_pos (by omega)]; rfl
          have hlt := Nat.mod_lt pre.length h0
          have hi := idx?_eq (xs := gaps) (i := ((pre.length % gaps.length : Nat) : Int)) (by omega) (by omega)
          refine ⟨idx gaps ((pre.length % gaps.length : Nat) : Int), hg _ (List.mem_of_getElem? (ix_get hi)), ?_⟩
          rw [if_pos (decide_eq_true (by omega))]
          unfold rem?
          rw [if_neg (by omega), Option.bind_some, hr, hi]; rfl
        · refine ⟨[32], by decide, ?_⟩
          rw [if_neg (by rw [decide_eq_true_eq]; omega)]
      obtain ⟨gap, hgl, hgap⟩ := hgap
      rw [hgap, Option.bind_some, blank_ok (by omega) (by omega), Option.bind_some]
      cases hb : blankV gap with
      | false =>
        rw [if_pos (by rfl), hsan]
        exact Yld.some (.inr ⟨_, rfl, .inr rfl⟩)
      | true =>
        have hx80 := hsm x hmem
        have hwl : (wt x).length ≤ 162 := by have := wrt_len x.Kind x.S; unfold wt; omega
        rw [if_neg (by simp), text_ok' (by simp) (by intro t ht; have : t = x := by simpa using ht
                                                     subst this; omega) (by omega) (by intro t ht; have : t = x := by simpa using ht
                                                                                       subst this; omega), text_one (hp x hmem), Option.bind_some]
        simp only [un2]
        rw [if_neg (by simp)]
        have a1 : appS? (ofStr (mix ps)) gap = some (ofStr (mix ps ++ gap)) := by
          unfold appS?
          rw [if_pos (by rw [ofStr_len]; omega), ofStr_app]
        have a2 : appB? (ofStr (mix ps ++ gap)) [10] = some (ofStr (mix ps ++ gap ++ [10])) := by
          unfold appB?
          rw [if_pos (by rw [ofStr_len, List.length_append]; simp; omega), ofStr_app (mix ps ++ gap)]
          rfl
        have a3 : appS? (ofStr (mix ps ++ gap ++ [10])) (wt x) = some (ofStr (mix (ps ++ [(gap ++ [10], x)]))) := by
          have hm2 : mix (ps ++ [(gap ++ [10], x)]) = mix ps ++ gap ++ [10] ++ wt x := by rw [mix_app, mix, mix]; simp
          unfold appS?
          rw [if_pos (by rw [ofStr_len]; simp; omega), hm2, ofStr_app (mix ps ++ gap ++ [10])]
        rw [a1, Option.bind_some, a2, Option.bind_some, a3, Option.bind_some]
        refine Yld.some (.inl ⟨_, rfl, ps ++ [(gap ++ [10], x)], ?_, ?_, rfl⟩)
        · simp [h1]
        · intro p hp2
          rcases List.mem_append.1 hp2 with hp2 | hp2
          · exact h2 p hp2
          · have : p = (gap ++ [10], x) := by simpa using hp2
            subst this
            exact ⟨blank_gap hb, by simp; omega⟩
    · obtain ⟨ps, h1, h2, h4⟩ := hI
      exact .inl ⟨ps, h1, h2, by rw [h4]⟩
    · rcases ho with ⟨ps, h1, h2, rfl⟩ | rfl
      · simp only [alt2]
        rw [toStr_of, ofStr_len]
        have hps : ∀ p ∈ ps, possB p.2.Kind p.2.S = true := fun p hp2 => hp p.2 (by rw [← h1]; simp; exact ⟨p.1, hp2⟩)
        by_cases hlen : 100000 < (mix ps).length
        · rw [tokens_long hlen, Option.bind_some, hsan]
          simp only [un2, Option.bind_some]
          have e2 : decide ((100000 : Int) < ((mix ps).length : Int)) = true := decide_eq_true (by omega)
          rw [e2]
          exact Yld.some rfl
        · obtain ⟨n, hn, hnk⟩ := mix_lx ps (fun p hp2 => ⟨(h2 p hp2).1.1, hps p hp2⟩) (fun p hp2 => (h2 p (List.mem_of_mem_tail hp2)).1.2) 0
          have hkey : l.map key = n.map key := by rw [hnk, ← h1, List.map_map]; rfl
          rw [tokens_ok (by omega) (by omega) hn, Option.bind_some, show outP (.inl n) = (n, ⟨0, 0⟩) from rfl, hsan]
          simp only [un2, Option.bind_some]
          rw [same_ok (F := 2000000) hkey (by omega) (by omega)]
          have e2 : decide ((100000 : Int) < ((mix ps).length : Int)) = false := decide_eq_false (by omega)
          rw [e2]
          exact Yld.some rfl
      · exact Yld.some rfl
end Go.Proofs.YtbcdabflmkgkiaaGreatDoor

namespace Go.Proofs.YtbcdabflmkgkiaaGreatDoor
open Go Go.Sk
set_option linter.unusedVariables false
set_option linter.unusedSimpArgs false
theorem sumAll_ge {H : Type} : ∀ {l : List (DataW H)} {d : DataW H}, d ∈ l → Rows.uptoBulk d ≤ Rows.uptoBulkAll l
 | a :: l, d, h => by
  rw [Rows.uptoBulkAll]
  rcases List.mem_cons.1 h with rfl | h
  ·omega
  ·have := sumAll_ge h; omega
theorem lenAll_le {H : Type} : ∀ (l : List (DataW H)), l.length ≤ Rows.uptoBulkAll l
 | [] => by simp
 | a :: l => by
  rw [Rows.uptoBulkAll, List.length_cons]
  have := lenAll_le l
  have : 1 ≤ Rows.uptoBulk a := by cases a with
   | lit x => cases x <;> simp [Rows.uptoBulk]
   | _ => simp [Rows.uptoBulk]
  omega
theorem bulk_ok {H : Type} : BkOk (H := H) Rows.uptoBulk where
 len els sp := by rw [Rows.uptoBulk]; have := lenAll_le els; omega
 sl els sp d hd := by rw [Rows.uptoBulk]; have := sumAll_ge hd; omega
 agg ps d hd := by rw [Rows.uptoBulk]; have := sumAll_ge hd; omega
 str b := by rw [Rows.uptoBulk]; omega
theorem bulk_small {H : Type} {ds : List (DataW H)} (h : Rows.uptoSmall H ds = true) : Rows.uptoBulkAll ds ≤ 1048576 := of_decide_eq_true h
theorem forgets_end (s : Str) (gaps : List Str) (hs : s.length ≤ 1048576) (hg : ∀ g ∈ gaps, g.length ≤ 1048576) : skewbacklaw28_LexerForgetsSpaces_S 2000000 s gaps = some true := forgets_law s gaps hs hg
end Go.Proofs.YtbcdabflmkgkiaaGreatDoor

namespace Go.Proofs.YtbcdabflmkgkiaaGreatDoor
open Go Go.Sk
theorem forgets_ctr {mx : Int} (x0 : Str) (x1 : List Str) (hx0 : x0.length ≤ 1048576) (hx1 : ∀ y ∈ x1, y.length ≤ 1048576) : Meets Tryz.prog (tabs mx) 4 [] [.one (.str x0), .one (.sl 1 (x1.map eS))] (Is [] (.b (.one (.bool true)))) :=
 skewbacklaw28_LexerForgetsSpaces_spec (forgets_end x0 x1 hx0 hx1)
end Go.Proofs.YtbcdabflmkgkiaaGreatDoor

