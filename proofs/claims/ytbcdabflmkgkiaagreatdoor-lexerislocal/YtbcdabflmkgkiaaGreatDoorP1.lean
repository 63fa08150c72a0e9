/- the plain law -/
import Derived.Test.YtbcdabflmkgkiaaGreatDoorW3
namespace Go.Proofs.YtbcdabflmkgkiaaGreatDoor
open Go Go.Sk
set_option linter.unusedVariables false
set_option linter.unusedSimpArgs false
def isD (b : UInt8) : Bool := decide (48 ≤ b) && decide (b ≤ 57)
def isL (b : UInt8) : Bool := (decide (97 ≤ b) && decide (b ≤ 122)) || (decide (65 ≤ b) && decide (b ≤ 90))
def isN (b : UInt8) : Bool := isL b || isD b || decide (b = 95)
def isS (b : UInt8) : Bool := decide (b = 32) || decide (b = 9) || decide (b = 10) || decide (b = 13)
def isC (b : UInt8) : Bool := decide (b ≠ 10)
theorem bytes_all {p : UInt8 → Bool} (h : ∀ i : Fin 256, p (UInt8.ofNat i.val) = true) (x : UInt8) : p x = true := by
 have := h ⟨x.toNat, x.toNat_lt⟩
 simpa using this
theorem letter_ok (F : Nat) (x : UInt8) : lexer_letter_S F (x.toNat : Int) = some (isL x) := by
 have h : ∀ x : UInt8, decide (((decide (97 ≤ (ior .u8 (x.toNat : Int) 32)) && decide ((ior .u8 (x.toNat : Int) 32) ≤ 122)) && decide ((x.toNat : Int) < 128)) = isL x) = true := bytes_all (by decide +kernel)
 have h := of_decide_eq_true (h x)
 unfold lexer_letter_S letN
 show some (_ && _) = _
 rw [h]
theorem digit_ok (F : Nat) (x : UInt8) : lexer_digit_S F (x.toNat : Int) = some (isD x) := by
 have h : ∀ x : UInt8, decide ((decide (48 ≤ (x.toNat : Int)) && decide ((x.toNat : Int) ≤ 57)) = isD x) = true := bytes_all (by decide +kernel)
 have h := of_decide_eq_true (h x)
 unfold lexer_digit_S
 rw [h]
theorem toNat_eq (x : UInt8) (n : Nat) (hn : n < 256) : decide ((x.toNat : Int) = (n : Int)) = decide (x = UInt8.ofNat n) := by
 apply decide_eq_decide.2
 constructor
 ·intro h
  have : x.toNat = n := by omega
  rw [← this]; simp
 ·rintro rfl
  simp; omega
theorem fn_name (F : Nat) (x : UInt8) : byteFn_S F 94 (x.toNat : Int) = some (isN x) := by
 unfold byteFn_S lexer_scanner_name_1_S
 rw [if_pos rfl, letter_ok, digit_ok]
 have h := toNat_eq x 95 (by decide)
 simp only [Option.bind_some]
 cases hl : isL x <;> cases hd : isD x <;> simp [gcall, isN, hl, hd] <;> simpa using h
theorem fn_digit (F : Nat) (x : UInt8) : byteFn_S F 95 (x.toNat : Int) = some (isD x) := by
 unfold byteFn_S
 rw [if_neg (by decide), if_pos rfl, digit_ok]
theorem fn_space (F : Nat) (x : UInt8) : byteFn_S F 99 (x.toNat : Int) = some (isS x) := by
 unfold byteFn_S lexer_scanner_skip_1_S strings_IndexByte_S lite_IndexByte_S indexByte?
 rw [if_neg (by decide), if_neg (by decide), if_pos rfl]
 have h : ∀ x : UInt8, decide (decide (0 ≤ Lib.indexByte [32, 9, 10, 13] (x.toNat : Int).toNat.toUInt8) = isS x) = true := bytes_all (by decide +kernel)
 simpa using of_decide_eq_true (h x)
theorem fn_comment (F : Nat) (x : UInt8) : byteFn_S F 101 (x.toNat : Int) = some (isC x) := by
 unfold byteFn_S lexer_scanner_skip_2_S isC
 rw [if_neg (by decide), if_neg (by decide), if_neg (by decide), if_pos rfl]
 have h := toNat_eq x 10 (by decide)
 simpa using h
theorem drop_lt {s : Str} {k : Nat} {b : UInt8} {r : Str} (h : s.drop k = b :: r) : k < s.length := by
 have := congrArg List.length h
 simp at this; omega
theorem drop_succ {s : Str} {k : Nat} {b : UInt8} {r : Str} (h : s.drop k = b :: r) : s.drop (k + 1) = r := by
 have e : s.drop (k + 1) = (s.drop k).drop 1 := by rw [List.drop_drop]
 rw [e, h]; rfl
theorem drop_nil {s : Str} {k : Nat} (h : s.drop k = []) (hk : k ≤ s.length) : k = s.length := by
 have := congrArg List.length h
 simp at this; omega
theorem idx_drop {s : Str} {k : Nat} {b : UInt8} {r : Str} (h : s.drop k = b :: r) : idx? s (k : Int) = some b := by
 have hk := drop_lt h
 rw [idx?_eq (by omega) (by omega), idx_nat _ _ hk]
 have := List.drop_eq_getElem_cons hk
 rw [h] at this
 injection this with h1 h2
 rw [h1]
theorem wr {z : Int} (h1 : 0 ≤ z) (h2 : z ≤ 1000000000) : IntKind.i64.wrap z = z := wi64' (by omega) (by omega)
theorem wk (k : Nat) (h : k ≤ 100000000) : IntKind.i64.wrap ((k : Int) + 1) = ((k + 1 : Nat) : Int) := by rw [wr (by omega) (by omega)]; rfl
theorem drop_tw {s : Str} {k : Nat} (p : UInt8 → Bool) : s.drop (k + ((s.drop k).takeWhile p).length) = (s.drop k).dropWhile p := by
 rw [← List.drop_drop]
 generalize s.drop k = r
 induction r with
 | nil => rfl
 | cons b r ih =>
  by_cases hb : p b = true
  ·simp only [List.takeWhile_cons_of_pos hb, List.dropWhile_cons_of_pos hb, List.length_cons, List.drop_succ_cons]; exact ih
  ·simp only [List.takeWhile_cons_of_neg hb, List.dropWhile_cons_of_neg hb]; rfl
theorem tw_le (p : UInt8 → Bool) (r : Str) : (r.takeWhile p).length ≤ r.length := by
 induction r with
 | nil => simp
 | cons b r ih =>
  by_cases hb : p b = true
  ·simp only [List.takeWhile_cons_of_pos hb, List.length_cons]; omega
  ·simp only [List.takeWhile_cons_of_neg hb, List.length_nil]; omega
theorem tw_le' {s : Str} {k : Nat} (p : UInt8 → Bool) (hk : k ≤ s.length) : k + ((s.drop k).takeWhile p).length ≤ s.length := by
 have := tw_le p (s.drop k)
 rw [List.length_drop] at this; omega
theorem iter_yld {ι σ τ : Type} {body : σ → Option (σ ⊕ τ)} (st : ι → σ) (μ : ι → Nat) (I : ι → Prop) (Q : ι → τ → Prop)
  (step : ∀ k, I k → (∃ j, body (st k) = some (.inl (st j)) ∧ I j ∧ μ j < μ k ∧ ∀ t, Q j t → Q k t) ∨ ∃ t, body (st k) = some (.inr t) ∧ Q k t) :
  ∀ (G : Nat) (k : ι), I k → μ k < G → Yld (iter G body (st k)) (Q k) := by
 intro G
 induction G with
 | zero => intro k _ h; omega
 | succ G ih =>
  intro k hk hG
  rw [iter_succ]
  rcases step k hk with ⟨j, h, hI, hm, hq⟩ | ⟨t, h, hq⟩
  ·rw [h]
   exact (ih j hI (by omega)).mono hq
  ·rw [h]; exact ⟨t, rfl, hq⟩
theorem scan_iter {σ τ : Type} {body : σ → Option (σ ⊕ τ)} {s : Str} (p : UInt8 → Bool) (st : Nat → σ) (g : Nat → τ)
  (h1 : ∀ k b r, s.drop k = b :: r → p b = true → body (st k) = some (.inl (st (k + 1))))
  (h0 : ∀ k b r, s.drop k = b :: r → p b = false → body (st k) = some (.inr (g k)))
  (he : body (st s.length) = some (.inr (g s.length))) :
  ∀ (F k : Nat), k ≤ s.length → s.length - k < F → iter F body (st k) = some (g (k + ((s.drop k).takeWhile p).length)) := by
 intro F
 induction F with
 | zero => intro k _ h; omega
 | succ F ih =>
  intro k hk hF
  rw [iter_succ]
  cases hd : s.drop k with
  | nil =>
   have hk' := drop_nil hd hk
   subst hk'
   rw [he]; rfl
  | cons b r =>
   have hlt := drop_lt hd
   by_cases hb : p b = true
   ·rw [h1 k b r hd hb]
    show iter F body (st (k + 1)) = _
    rw [ih (k + 1) (by omega) (by omega), drop_succ hd, List.takeWhile_cons_of_pos hb, List.length_cons]
    congr 2; omega
   ·rw [h0 k b r hd (by simpa using hb), List.takeWhile_cons_of_neg hb]; rfl
theorem run_ok {F fn : Nat} {s : Str} {k : Nat} {p : UInt8 → Bool} (hp : ∀ x : UInt8, byteFn_S F fn (x.toNat : Int) = some (p x)) (hk : k ≤ s.length) (hF : s.length < F) (hs : s.length ≤ 100000000) :
  lexer_scanner_run_S F fn s (k : Int) = some (((((s.drop k).takeWhile p).length : Nat) : Int), s, ((k + ((s.drop k).takeWhile p).length : Nat) : Int)) := by
 unfold lexer_scanner_run_S
 rw [scan_iter (s := s) p (fun k => (⟨s, (k : Int)⟩ : Scan)) (fun k => (⟨s, (k : Int)⟩ : Scan)) ?_ ?_ ?_ F k hk (by omega)]
 ·have := tw_le' p hk
  generalize ((s.drop k).takeWhile p).length = n at *
  show some (IntKind.i64.wrap (((k + n : Nat) : Int) - (k : Int)), s, ((k + n : Nat) : Int)) = some ((n : Int), s, ((k + n : Nat) : Int))
  rw [show ((k + n : Nat) : Int) - (k : Int) = (n : Int) by omega, wr (by omega) (by omega)]
 ·intro k b r hd hb
  have hlt := drop_lt hd
  have e : decide ((k : Int) < (s.length : Int)) = true := by simpa using hlt
  simp only [e, gcall, if_true, idx_drop hd, Option.bind_some, hp, hb, Bool.and_self]
  rw [wk k (by omega)]
 ·intro k b r hd hb
  have hlt := drop_lt hd
  have e : decide ((k : Int) < (s.length : Int)) = true := by simpa using hlt
  simp only [e, gcall, if_true, idx_drop hd, Option.bind_some, hp, hb, Bool.and_false]
  rfl
 ·simp [gcall]
def pk : Str → Int
 | [] => 0
 | b :: _ => (b.toNat : Int)
theorem peek_ok (F : Nat) {s : Str} {k : Nat} (hk : k ≤ s.length) : lexer_scanner_peek_S F s (k : Int) = some (pk (s.drop k)) := by
 unfold lexer_scanner_peek_S
 cases hd : s.drop k with
 | nil =>
  have := drop_nil hd hk
  rw [if_pos (by simp; omega)]; rfl
 | cons b r =>
  have hlt := drop_lt hd
  rw [if_neg (by simp; omega), idx_drop hd]; rfl
def sk : Bool → Str → Str
 | _, [] => []
 | false, b :: r => if isS b then sk false r else if b = 35 then sk true r else b :: r
 | true, b :: r => if b = 10 then sk false r else sk true r
theorem sk_len : ∀ (r : Str) (c : Bool), (sk c r).length ≤ r.length
 | [], c => by cases c <;> simp [sk]
 | b :: r, false => by
  unfold sk
  have h1 := sk_len r false
  have h2 := sk_len r true
  split
  ·simp; omega
  ·split
   ·simp; omega
   ·simp
 | b :: r, true => by
  unfold sk
  have h1 := sk_len r false
  have h2 := sk_len r true
  split <;> simp <;> omega
theorem sk_sp (r : Str) : sk false (r.dropWhile isS) = sk false r := by
 induction r with
 | nil => rfl
 | cons b r ih =>
  by_cases hb : isS b = true
  ·rw [List.dropWhile_cons_of_pos hb, ih]
   show _ = sk false (b :: r)
   rw [sk, if_pos hb]
  ·rw [List.dropWhile_cons_of_neg hb]
theorem sk_cm (r : Str) : sk false (r.dropWhile isC) = sk true r := by
 induction r with
 | nil => rfl
 | cons b r ih =>
  by_cases hb : b = 10
  ·subst hb
   rw [List.dropWhile_cons_of_neg (by decide)]
   rw [sk, if_pos (by decide), sk, if_pos rfl]
  ·rw [List.dropWhile_cons_of_pos (by simpa [isC] using hb), ih]
   conv => rhs; rw [sk, if_neg hb]
theorem sk_cm' (r : Str) : sk false (35 :: r) = sk false ((35 :: r).dropWhile isC) := by
 rw [List.dropWhile_cons_of_pos (by decide), sk_cm, sk, if_neg (by decide), if_pos rfl]
theorem sk_drop : ∀ (r : Str) (c : Bool), sk c r = r.drop (r.length - (sk c r).length)
 | [], c => by cases c <;> rfl
 | b :: r, c => by
  have h1 := sk_drop r false
  have h2 := sk_drop r true
  have l1 := sk_len r false
  have l2 := sk_len r true
  have key : ∀ t : Str, t.length ≤ r.length → t = r.drop (r.length - t.length) → t = (b :: r).drop ((b :: r).length - t.length) := by
   intro t hl ht
   have e : (b :: r).length - t.length = (r.length - t.length) + 1 := by simp only [List.length_cons]; omega
   rw [e, List.drop_succ_cons]; exact ht
  cases c
  ·by_cases hb : isS b = true
   ·have e : sk false (b :: r) = sk false r := by rw [sk, if_pos hb]
    rw [e]; exact key _ l1 h1
   ·by_cases hc : b = 35
    ·have e : sk false (b :: r) = sk true r := by rw [sk, if_neg hb, if_pos hc]
     rw [e]; exact key _ l2 h2
    ·have e : sk false (b :: r) = b :: r := by rw [sk, if_neg hb, if_neg hc]
     rw [e]; simp
  ·by_cases hb : b = 10
   ·have e : sk true (b :: r) = sk false r := by rw [sk, if_pos hb]
    rw [e]; exact key _ l1 h1
   ·have e : sk true (b :: r) = sk true r := by rw [sk, if_neg hb]
    rw [e]; exact key _ l2 h2
def sp (s : Str) (k : Nat) : Nat := s.length - (sk false (s.drop k)).length
theorem sp_drop {s : Str} {k : Nat} (hk : k ≤ s.length) : s.drop (sp s k) = sk false (s.drop k) := by
 have h := sk_drop (s.drop k) false
 have hl := sk_len (s.drop k) false
 rw [List.length_drop] at h hl
 conv => rhs; rw [h]
 rw [List.drop_drop]
 congr 1
 unfold sp; omega
theorem sp_ge {s : Str} {k : Nat} (hk : k ≤ s.length) : k ≤ sp s k := by
 have hl := sk_len (s.drop k) false
 rw [List.length_drop] at hl
 unfold sp; omega
theorem sp_of {s : Str} {k j : Nat} (h : sk false (s.drop j) = sk false (s.drop k)) : sp s j = sp s k := by unfold sp; rw [h]
theorem sp_end {s : Str} {k : Nat} (hk : k ≤ s.length) (h : sk false (s.drop k) = s.drop k) : sp s k = k := by
 unfold sp; rw [h, List.length_drop]; omega
end Go.Proofs.YtbcdabflmkgkiaaGreatDoor

namespace Go.Proofs.YtbcdabflmkgkiaaGreatDoor
open Go Go.Sk
set_option linter.unusedVariables false
set_option linter.unusedSimpArgs false
theorem dw_head {p : UInt8 → Bool} : ∀ {r : Str} {b : UInt8} {q : Str}, r.dropWhile p = b :: q → p b = false
 | [], _, _, h => by cases h
 | a :: r, b, q, h => by
  by_cases ha : p a = true
  ·rw [List.dropWhile_cons_of_pos ha] at h; exact dw_head h
  ·rw [List.dropWhile_cons_of_neg ha] at h
   injection h with h1 h2
   subst h1; simpa using ha
theorem pk_35 {r : Str} : (pk r = 35) ↔ ∃ q, r = 35 :: q := by
 cases r with
 | nil => simp [pk]
 | cons b q =>
  constructor
  ·intro h
   have h' : (b.toNat : Int) = 35 := h
   refine ⟨q, ?_⟩
   have : b = 35 := by
    have h2 : b.toNat = 35 := by omega
    have := congrArg UInt8.ofNat h2
    simpa using this
   rw [this]
  ·rintro ⟨q', h⟩
   injection h with h1 h2
   subst h1; rfl
theorem sk_stop {r : Str} (h1 : ∀ b q, r = b :: q → isS b = false) (h2 : ∀ q, r ≠ 35 :: q) : sk false r = r := by
 cases r with
 | nil => rfl
 | cons b q =>
  rw [sk, if_neg (by rw [h1 b q rfl]; simp), if_neg]
  rintro rfl
  exact h2 q rfl
theorem skip_ok {F : Nat} {s : Str} {k : Nat} (hk : k ≤ s.length) (hF : s.length < F) (hs : s.length ≤ 100000000) :
  lexer_scanner_skip_S F s (k : Int) = some (s, ((sp s k : Nat) : Int)) := by
 unfold lexer_scanner_skip_S
 refine Yld.eq (Yld.bind (iter_yld (fun k : Nat => (⟨s, (k : Int)⟩ : Scan)) (fun k => s.length - k) (fun k => k ≤ s.length) (fun k t => t = ⟨s, ((sp s k : Nat) : Int)⟩) ?_ F k hk (by omega)) fun t ht => ?_)
 ·intro k hk
  have hr := run_ok (F := F) (fn_space F) hk hF hs
  have hd := drop_tw (s := s) (k := k) isS
  have hle := tw_le' (s := s) isS hk
  have hsk := sk_sp (s.drop k)
  have hhd := @dw_head isS (s.drop k)
  dsimp only
  rw [hr]
  generalize ((s.drop k).takeWhile isS).length = a at *
  generalize hr1 : (s.drop k).dropWhile isS = r1 at *
  simp only [Option.bind_some, un3]
  rw [peek_ok F hle, hd]
  by_cases hc : pk r1 = 35
  ·have hd2 := drop_tw (s := s) (k := k + a) isC
   have hle2 := tw_le' (s := s) isC hle
   obtain ⟨q, rfl⟩ := pk_35.1 hc
   have hpos : 0 < ((s.drop (k + a)).takeWhile isC).length := by
    rw [hd, List.takeWhile_cons_of_pos (by decide)]; simp
   refine .inl ⟨(k + a) + ((s.drop (k + a)).takeWhile isC).length, ?_, hle2, by omega, ?_⟩
   ·rw [run_ok (fn_comment F) hle hF hs]
    cases h0 : decide (0 < (a : Int)) <;> simp [gcall, hc]
   ·intro t ht
    rw [show sp s (k + a + ((s.drop (k + a)).takeWhile isC).length) = sp s k from sp_of (by rw [hd2, hd, ← sk_cm', hsk])] at ht
    exact ht
  ·have hc' : ∀ q, r1 ≠ 35 :: q := fun q h => hc (pk_35.2 ⟨q, h⟩)
   by_cases ha : 0 < a
   ·refine .inl ⟨k + a, ?_, hle, by omega, ?_⟩
    ·have e0 : decide (0 < (a : Int)) = true := by simpa using ha
     simp only [e0, gcall, Bool.not_true, Bool.true_or, if_true, Option.bind_some, hc, decide_false, Bool.false_eq_true, if_false]
    ·intro t ht
     rw [show sp s (k + a) = sp s k from sp_of (by rw [hd, hsk])] at ht
     exact ht
   ·refine .inr ⟨⟨s, (((k + a : Nat)) : Int)⟩, ?_, ?_⟩
    ·have e0 : decide (0 < (a : Int)) = false := by simpa using ha
     simp only [e0, gcall, Bool.not_false, if_true, Option.bind_some, hc, decide_false, Bool.or_self, Bool.false_eq_true, if_false]
    ·have : a = 0 := by omega
     subst this
     have hst : sk false r1 = r1 := sk_stop (fun b q h => hhd h) hc'
     rw [show sp s k = k + 0 from sp_end hk (by rw [← hsk, hst, ← hd]; rfl)]
 ·subst ht; exact Yld.some rfl
def isW (t : Str) : Bool := decide (t ∈ wordsT)
theorem bs_in (G : Nat) : wordsT.all (fun t => decide (lexer_Word_S (G + 100) t = some true)) = true := by kernel_rfl
theorem bs_out {F : Nat} (hF : 100 < F) {t : Str} (h : t ∉ wordsT) : lexer_Word_S F t = some false := by
 unfold lexer_Word_S slices_BinarySearch_S
 have hl : (wordsT.length : Int) = 36 := by decide
 rw [hl]
 refine Yld.eq (Yld.bind (P := fun o : Int × Bool => o.2 = false) (Yld.bind (P := fun i : Int => 0 ≤ i) (Yld.loop (fun s : Int × Int => 0 ≤ s.1 ∧ s.1 ≤ s.2 ∧ s.2 ≤ 36) (fun s => (s.2 - s.1).toNat) (by decide) (by show (36 : Int).toNat < F; have : (36 : Int).toNat = 36 := rfl; omega) ?_) fun i hi => ?_) ?_)
 ·rintro ⟨i, j⟩ ⟨h0, h1, h2⟩
  simp only at h0 h1 h2
  simp only [un2]
  refine Yld.ite (fun hc => ?_) (fun hc => Yld.some (.inr ⟨_, rfl, h0⟩))
  have hc := of_decide_eq_true hc
  have e1 : IntKind.i64.wrap (i + j) = i + j := wr (by omega) (by omega)
  have e2 : IntKind.u64.wrap (i + j) = i + j := by rw [wu64]; omega
  have e3 : IntKind.i64.wrap ((i + j) / 2) = (i + j) / 2 := wr (by omega) (by omega)
  rw [e1, e2]
  refine Yld.ln ?_
  rw [e3]
  refine Yld.idx (by omega) (by rw [hl]; omega) ?_
  unfold cmp_Less_S cmp_isNaN_S
  rw [Option.bind_some]
  have e4 : decide (idx wordsT ((i + j) / 2) ≠ idx wordsT ((i + j) / 2)) = false := by simp
  rw [e4]
  refine Yld.bindE (x := Op.bytesLess (idx wordsT ((i + j) / 2)) t) (by simp [gcall]) ?_
  refine Yld.ite (fun _ => Yld.ln (Yld.some (.inl ⟨_, rfl, ?_, ?_⟩))) (fun _ => Yld.some (.inl ⟨_, rfl, ?_, ?_⟩))
  ·rw [wr (by omega) (by omega)]; simp only; omega
  ·rw [wr (by omega) (by omega)]; simp only; omega
  ·simp only; omega
  ·simp only; omega
 ·by_cases hc : i < 36
  ·have e0 : decide (i < 36) = true := by simpa using hc
   have e1 : decide (idx wordsT i = t) = false := by
    have hm : idx wordsT i ∈ wordsT := by
     have := idx_eq (xs := wordsT) hi (by rw [hl]; exact hc)
     exact List.mem_of_getElem? this
    simp only [decide_eq_false_iff_not]
    intro e; exact h (e ▸ hm)
   rw [e0]
   refine Yld.g1 rfl (Yld.idx hi (by rw [hl]; exact hc) ?_)
   rw [e1]
   refine Yld.g1 rfl (Yld.idx hi (by rw [hl]; exact hc) ?_)
   unfold slices_isNaN_S
   simp only [Bool.not_false, Bool.and_self, gcall, if_true, Option.bind_some, letN]
   have e4 : decide (idx wordsT i ≠ idx wordsT i) = false := by simp
   rw [e4]
   exact Yld.some rfl
  ·have e0 : decide (i < 36) = false := by simpa using hc
   rw [e0]
   simp only [Bool.false_and, gcall, Bool.false_eq_true, if_false, Option.bind_some, letN]
   exact Yld.some rfl
 ·rintro ⟨i, b⟩ hb
  simp only at hb
  subst hb
  exact Yld.some rfl
theorem word_ok {F : Nat} (hF : 100 < F) (t : Str) : lexer_Word_S F t = some (isW t) := by
 by_cases h : t ∈ wordsT
 ·obtain ⟨G, rfl⟩ : ∃ G, F = G + 100 := ⟨F - 100, by omega⟩
  have := of_decide_eq_true (List.all_eq_true.1 (bs_in G) t h)
  rw [this, isW, decide_eq_true h]
 ·rw [bs_out hF h, isW, decide_eq_false h]
end Go.Proofs.YtbcdabflmkgkiaaGreatDoor

namespace Go.Proofs.YtbcdabflmkgkiaaGreatDoor
open Go Go.Sk
set_option linter.unusedVariables false
set_option linter.unusedSimpArgs false
inductive Tk where
 | bad (e : Int)
 | got (k : Int) (t : Str) (n : Nat)
def nameT (r : Str) : Tk := if 32 < (r.takeWhile isN).length then .bad 2 else .got (if isW (r.takeWhile isN) then 1 else 2) (r.takeWhile isN) (r.takeWhile isN).length
def numL (r : Str) : Nat × Nat := match r.dropWhile isD with
 | 46 :: d :: q => if isD d then ((r.takeWhile isD).length + 1 + ((d :: q).takeWhile isD).length, (r.takeWhile isD).length + ((d :: q).takeWhile isD).length) else ((r.takeWhile isD).length, (r.takeWhile isD).length)
 | _ => ((r.takeWhile isD).length, (r.takeWhile isD).length)
def hL : Str → Bool
 | [] => false
 | b :: _ => isL b
def lu (r : Str) : Bool := hL r || decide (pk r = 95)
def zero2 (r : Str) : Bool := decide (1 < (r.takeWhile isD).length) && decide (pk r = 48)
def numT (r : Str) : Tk := if 40 < (numL r).2 then .bad 2 else if zero2 r || lu (r.drop (numL r).1) then .bad 281 else .got 3 (r.take (numL r).1) (numL r).1
def textG : Str → Option (Str × Nat)
 | [] => none
 | [b] => if b = 34 then some ([], 1) else none
 | b :: c :: q => if b = 34 then some ([], 1) else if b = 92 then (if c = 34 ∨ c = 92 then (textG q).map fun z => (c :: z.1, z.2 + 2) else none) else if 32 ≤ b ∧ b ≤ 126 then (textG (c :: q)).map fun z => (b :: z.1, z.2 + 1) else none
def textT (r : Str) : Tk := match textG (r.drop 1) with
 | none => .bad 280
 | some z => if 80 < z.1.length then .bad 2 else .got 4 z.1 (z.2 + 1)
def signT (r : Str) : Tk := match signsT.find? (fun g => g.isPrefixOf r) with
 | none => .bad 280
 | some g => .got 5 g g.length
def tok (r : Str) : Tk := match r with
 | [] => .bad 280
 | b :: _ => if isL b then nameT r else if isD b then numT r else if b = 34 then textT r else signT r
def Tk.res (s : Str) (k : Nat) : Tk → (Token × Bool × Str × Int) ⊕ Problem
 | .bad e => .inr ⟨(k : Int), e⟩
 | .got kd t n => .inl (⟨kd, (k : Int), t⟩, true, s, ((k + n : Nat) : Int))
theorem sub_at {s : Str} {k n : Nat} (h : k + n ≤ s.length) : sub? s (k : Int) ((k + n : Nat) : Int) = some ((s.drop k).take n) := by
 unfold sub?
 rw [if_pos ⟨by omega, by omega, by omega⟩]
 congr 1
 simp only [Int.toNat_natCast]
 rw [List.drop_take]
 congr 1
 omega
theorem take_tw (p : UInt8 → Bool) (r : Str) : r.take (r.takeWhile p).length = r.takeWhile p := by
 induction r with
 | nil => rfl
 | cons b r ih =>
  by_cases hb : p b = true
  ·rw [List.takeWhile_cons_of_pos hb, List.length_cons, List.take_succ_cons, ih]
  ·rw [List.takeWhile_cons_of_neg hb]; rfl
theorem pk_cons (b : UInt8) (r : Str) : pk (b :: r) = (b.toNat : Int) := rfl
theorem letter_pk (F : Nat) (r : Str) : lexer_letter_S F (pk r) = some (hL r) := by
 cases r with
 | nil => exact letter_ok F 0
 | cons b r => exact letter_ok F b
theorem pk_95 (r : Str) : decide (pk r = 95) = match r with | [] => false | b :: _ => decide (b = 95) := by
 cases r with
 | nil => rfl
 | cons b r => exact toNat_eq b 95 (by decide)
theorem pk_34 (r : Str) : decide (pk r = 34) = match r with | [] => false | b :: _ => decide (b = 34) := by
 cases r with
 | nil => rfl
 | cons b r => exact toNat_eq b 34 (by decide)
theorem pk_46 (r : Str) : decide (pk r = 46) = match r with | [] => false | b :: _ => decide (b = 46) := by
 cases r with
 | nil => rfl
 | cons b r => exact toNat_eq b 46 (by decide)
theorem name_no {F : Nat} {s : Str} {k : Nat} {b : UInt8} {q : Str} (hd : s.drop k = b :: q) (hb : isL b = false) : lexer_scanner_name_S F s (k : Int) = some (.inl (⟨0, 0, []⟩, false, s, (k : Int))) := by
 have hk := drop_lt hd
 unfold lexer_scanner_name_S
 rw [peek_ok F (by omega), Option.bind_some, letter_pk, hd, Option.bind_some]
 simp only [hL, hb, Bool.not_false, if_true]
theorem name_ok {F : Nat} {s : Str} {k : Nat} {b : UInt8} {q : Str} (hd : s.drop k = b :: q) (hb : isL b = true) (hF : s.length < F) (hF2 : 100 < F) (hs : s.length ≤ 100000000) : lexer_scanner_name_S F s (k : Int) = some ((nameT (s.drop k)).res s k) := by
 have hk := drop_lt hd
 unfold lexer_scanner_name_S
 rw [peek_ok F (by omega), Option.bind_some, letter_pk, hd, Option.bind_some]
 simp only [hL, hb, Bool.not_true, Bool.false_eq_true, if_false]
 rw [run_ok (fn_name F) (by omega) hF hs, Option.bind_some]
 have hle := tw_le' (s := s) isN (Nat.le_of_lt hk)
 have htk := take_tw isN (s.drop k)
 rw [← hd]
 unfold nameT
 generalize hn : ((s.drop k).takeWhile isN).length = n at *
 simp only [un3]
 by_cases h32 : 32 < n
 ·rw [if_pos h32, if_pos (by simp; omega)]; rfl
 ·rw [if_neg h32, if_neg (by simp; omega)]
  simp only [Option.bind_some, alt2]
  rw [sub_at hle, Option.bind_some, htk, word_ok hF2, Option.bind_some]
  cases isW ((s.drop k).takeWhile isN) <;> rfl
theorem numL_le (r : Str) : (numL r).1 ≤ r.length := by
 have h1 := tw_le isD r
 have h2 : (r.takeWhile isD).length + (r.dropWhile isD).length = r.length := by
  conv => rhs; rw [← List.takeWhile_append_dropWhile (p := isD) (l := r), List.length_append]
 unfold numL
 split
 ·next d q h =>
  rw [h] at h2
  have h3 := tw_le isD (d :: q)
  split
  ·simp only [List.length_cons] at *; omega
  ·simp only; omega
 ·simp only; omega
theorem numL_dot {r : Str} {d : UInt8} {q : Str} (h : r.dropWhile isD = 46 :: d :: q) (hd : isD d = true) : numL r = ((r.takeWhile isD).length + 1 + ((d :: q).takeWhile isD).length, (r.takeWhile isD).length + ((d :: q).takeWhile isD).length) := by
 unfold numL
 rw [h]
 simp only [hd, if_true]
theorem numL_no {r : Str} (h : ∀ d q, r.dropWhile isD = 46 :: d :: q → isD d = false) : numL r = ((r.takeWhile isD).length, (r.takeWhile isD).length) := by
 unfold numL
 split
 ·next d q e => rw [h d q e]; rfl
 ·rfl
theorem number_no {F : Nat} {s : Str} {k : Nat} {b : UInt8} {q : Str} (hd : s.drop k = b :: q) (hb : isD b = false) (hF : s.length < F) (hs : s.length ≤ 100000000) : lexer_scanner_number_S F s (k : Int) = some (.inl (⟨0, 0, []⟩, false, s, (k : Int))) := by
 have hk := drop_lt hd
 unfold lexer_scanner_number_S
 rw [run_ok (fn_digit F) (by omega) hF hs, Option.bind_some, hd, List.takeWhile_cons_of_neg (by simp [hb])]
 rfl
end Go.Proofs.YtbcdabflmkgkiaaGreatDoor

namespace Go.Proofs.YtbcdabflmkgkiaaGreatDoor
open Go Go.Sk
set_option linter.unusedVariables false
set_option linter.unusedSimpArgs false
theorem number_ok {F : Nat} {s : Str} {k : Nat} {b : UInt8} {q : Str} (hd : s.drop k = b :: q) (hb : isD b = true) (hF : s.length < F) (hs : s.length ≤ 100000000) : lexer_scanner_number_S F s (k : Int) = some ((numT (s.drop k)).res s k) := by
 have hk := drop_lt hd
 unfold lexer_scanner_number_S
 rw [run_ok (fn_digit F) (by omega) hF hs, Option.bind_some]
 have hle := tw_le' (s := s) isD (Nat.le_of_lt hk)
 have hdt := drop_tw (s := s) (k := k) isD
 have hnl := numL_le (s.drop k)
 rw [List.length_drop] at hnl
 have ha : 0 < ((s.drop k).takeWhile isD).length := by rw [hd, List.takeWhile_cons_of_pos hb]; simp
 have hz : zero2 (s.drop k) = (decide (1 < ((s.drop k).takeWhile isD).length) && decide ((b.toNat : Int) = 48)) := by unfold zero2; rw [hd]; rfl
 have hdot := @numL_dot (s.drop k)
 have hno := @numL_no (s.drop k)
 generalize hA : ((s.drop k).takeWhile isD).length = a at *
 simp only [un3]
 rw [if_neg (by simp; omega)]
 refine Yld.eq (Yld.bind (P := fun o : Scan × Int => o = (⟨s, ((k + (numL (s.drop k)).1 : Nat) : Int)⟩, ((numL (s.drop k)).2 : Int) - (a : Int)) ∧ (numL (s.drop k)).2 ≤ s.length) ?_ ?_)
 ·rw [peek_ok F hle, hdt, Option.bind_some, pk_46]
  cases h1 : (s.drop k).dropWhile isD with
  | nil =>
   rw [hno (by rw [h1]; intro d q h; cases h)]
   simp only [Bool.false_and, gcall, Bool.false_eq_true, if_false, Option.bind_some]
   exact Yld.some ⟨by simp, by show a ≤ s.length; omega⟩
  | cons c r1 =>
   rw [h1] at hdt
   have hlt := drop_lt hdt
   have hds := drop_succ hdt
   simp only
   by_cases hc : c = 46
   ·subst hc
    cases r1 with
    | nil =>
     have hend : k + a + 1 = s.length := drop_nil hds (by omega)
     rw [hno (by rw [h1]; intro d q h; cases h)]
     have e1 : decide (IntKind.i64.wrap (((k + a : Nat) : Int) + 1) < (s.length : Int)) = false := by rw [wk (k + a) (by omega)]; simp; omega
     simp only [e1, Bool.and_false, gcall, Bool.false_eq_true, if_false, Option.bind_some]
     exact Yld.some ⟨by simp, by show a ≤ s.length; omega⟩
    | cons d q1 =>
     have hlt2 := drop_lt hds
     have e1 : decide (((k + a + 1 : Nat) : Int) < (s.length : Int)) = true := decide_eq_true (by omega)
     have e2 := idx_drop hds
     simp only [wk (k + a) (by omega), e1, e2, decide_true, Bool.and_self, gcall, if_true, Option.bind_some, digit_ok, Bool.true_and]
     by_cases hg : isD d = true
     ·rw [hdot (d := d) (q := q1) (by rw [h1]) hg, hg, if_pos rfl, run_ok (fn_digit F) (by omega) hF hs, Option.bind_some, hds]
      have h5 := tw_le' (s := s) (k := k + a + 1) isD (by omega)
      rw [hds] at h5
      generalize ((d :: q1).takeWhile isD).length = m at *
      refine Yld.some ⟨?_, by show a + m ≤ s.length; omega⟩
      show ((⟨s, ((k + a + 1 + m : Nat) : Int)⟩ : Scan), (m : Int)) = (⟨s, ((k + (a + 1 + m) : Nat) : Int)⟩, ((a + m : Nat) : Int) - (a : Int))
      rw [show k + (a + 1 + m) = k + a + 1 + m by omega, show ((a + m : Nat) : Int) - (a : Int) = (m : Int) by omega]
     ·have hg' : isD d = false := by simpa using hg
      rw [hno (by rw [h1]; intro d' q' h; injection h with _ h; injection h with h _; rw [← h]; exact hg')]
      simp only [hg', Bool.and_false, Bool.false_eq_true, if_false]
      exact Yld.some ⟨by simp, by show a ≤ s.length; omega⟩
   ·have e0 : decide (c = 46) = false := by simpa using hc
    rw [hno (by rw [h1]; intro d q h; injection h with h _; exact absurd h hc)]
    simp only [e0, Bool.false_and, gcall, Bool.false_eq_true, if_false, Option.bind_some]
    exact Yld.some ⟨by simp, by show a ≤ s.length; omega⟩
 ·rintro o ⟨rfl, hc⟩
  simp only [un2]
  unfold numT
  have hle2 : k + (numL (s.drop k)).1 ≤ s.length := by omega
  have hu := letter_pk F (s.drop (k + (numL (s.drop k)).1))
  rw [← List.drop_drop] at hu
  have hp := peek_ok F hle2
  rw [← List.drop_drop] at hp
  have hsub := sub_at hle2
  rw [hz]
  generalize numL (s.drop k) = nc at *
  obtain ⟨n, c⟩ := nc
  simp only at *
  rw [show (a : Int) + ((c : Int) - (a : Int)) = (c : Int) by omega, wr (by omega) (by omega)]
  by_cases h40 : 40 < c
  ·rw [if_pos h40, if_pos (by simp; omega)]
   exact Yld.some rfl
  ·rw [if_neg h40, if_neg (by simp; omega)]
   have hi := idx_drop hd
   have e0 : decide ((1 : Int) < (a : Int)) = decide (1 < a) := by rw [decide_eq_decide]; omega
   simp only [hi, hp, hsub, e0, lu]
   rcases Bool.eq_false_or_eq_true (decide (1 < a)) with hA | hA <;> rcases Bool.eq_false_or_eq_true (hL ((s.drop k).drop n)) with hl | hl <;> rcases Bool.eq_false_or_eq_true (decide (pk ((s.drop k).drop n) = 95)) with hU | hU <;> rcases Bool.eq_false_or_eq_true (decide ((b.toNat : Int) = 48)) with hB | hB <;> simp only [gcall, hA, Bool.not_true, Bool.not_false, Bool.true_and, Bool.false_and, Bool.and_true, Bool.and_false, Bool.or_true, Bool.or_false, Bool.true_or, Bool.false_or, if_true, Bool.false_eq_true, if_false, Option.bind_some, hB, hu, hl, hU, letN, hsub, alt2, lexer_scanner_fail_S] <;> exact Yld.some rfl
end Go.Proofs.YtbcdabflmkgkiaaGreatDoor

namespace Go.Proofs.YtbcdabflmkgkiaaGreatDoor
open Go Go.Sk
set_option linter.unusedVariables false
set_option linter.unusedSimpArgs false
end Go.Proofs.YtbcdabflmkgkiaaGreatDoor

namespace Go.Proofs.YtbcdabflmkgkiaaGreatDoor
open Go Go.Sk
set_option linter.unusedVariables false
set_option linter.unusedSimpArgs false
def inT (b : UInt8) : Bool := decide (32 ≤ b) && decide (b ≤ 126)
theorem inT_ok (b : UInt8) : (decide ((b.toNat : Int) < 32) || decide (126 < (b.toNat : Int))) = !inT b := by
 have h : ∀ b : UInt8, decide ((decide ((b.toNat : Int) < 32) || decide (126 < (b.toNat : Int))) = !inT b) = true := bytes_all (by decide +kernel)
 exact of_decide_eq_true (h b)
theorem textG_cons (b : UInt8) (r : Str) : textG (b :: r) = if b = 34 then some ([], 1) else if b = 92 then (match r with | [] => none | c :: q => if c = 34 ∨ c = 92 then (textG q).map fun z => (c :: z.1, z.2 + 2) else none) else if inT b = true then (textG r).map fun z => (b :: z.1, z.2 + 1) else none := by
 cases r with
 | nil =>
  by_cases h1 : b = 34
  ·simp [textG, h1]
  ·by_cases h2 : b = 92
   ·simp [textG, h2]
   ·by_cases h3 : inT b = true <;> simp [textG, h1, h2, h3]
 | cons c q =>
  rw [textG]
  simp only [inT, Bool.and_eq_true, decide_eq_true_eq]
theorem textG_pos : ∀ (r : Str) (z : Str × Nat), textG r = some z → 1 ≤ z.2 ∧ z.2 ≤ r.length ∧ z.1.length < z.2
 | [], z, h => by cases h
 | [b], z, h => by
  rw [textG] at h
  split at h
  ·cases h; simp
  ·cases h
 | b :: c :: q, z, h => by
  rw [textG_cons] at h
  have h1 := textG_pos q
  have h2 := textG_pos (c :: q)
  split at h
  ·cases h; simp
  ·split at h
   ·simp only at h
    split at h
    ·obtain ⟨y, hy, rfl⟩ := Option.map_eq_some_iff.1 h
     have := h1 y hy
     simp only [List.length_cons] at *
     omega
    ·cases h
   ·split at h
    ·obtain ⟨y, hy, rfl⟩ := Option.map_eq_some_iff.1 h
     have := h2 y hy
     simp only [List.length_cons] at *
     omega
    ·cases h
theorem toStr_of (t : Str) : toStr (ofStr t) = t := by
 unfold toStr ofStr
 rw [List.map_map]
 conv => rhs; rw [← List.map_id t]
 congr 1
 funext c
 show UInt8.ofNat (c.toNat : Int).toNat = c
 simp
theorem text_no {F : Nat} {s : Str} {k : Nat} {b : UInt8} {q : Str} (hd : s.drop k = b :: q) (hb : b ≠ 34) : lexer_scanner_text_S F s (k : Int) = some (.inl (⟨0, 0, []⟩, false, s, (k : Int))) := by
 have hk := drop_lt hd
 unfold lexer_scanner_text_S
 rw [peek_ok F (by omega), Option.bind_some, hd]
 have h34 : decide (pk (b :: q) = 34) = decide (b = 34) := pk_34 (b :: q)
 rw [if_pos]
 rw [decide_not, h34]; simp [hb]
theorem text_ok {F : Nat} {s : Str} {k : Nat} {q : Str} (hd : s.drop k = 34 :: q) (hF : s.length < F) (hs : s.length ≤ 100000000) : lexer_scanner_text_S F s (k : Int) = some ((textT (s.drop k)).res s k) := by
 have hk := drop_lt hd
 unfold lexer_scanner_text_S
 rw [peek_ok F (by omega), Option.bind_some, hd]
 rw [if_neg (by simp [pk]), wk k (by omega)]
 have hds := drop_succ hd
 refine Yld.eq (Yld.bind (iter_yld (ι := Nat × List Int) (fun j => ((⟨s, (j.1 : Int)⟩ : Scan), j.2)) (fun j => s.length - j.1) (fun j => j.1 ≤ s.length ∧ j.2.length ≤ j.1)
  (fun j t => match textG (s.drop j.1) with | none => t = .inr (.inr (⟨(k : Int), 280⟩ : Problem)) | some z => ∃ i : Nat, i + 1 = j.1 + z.2 ∧ t = .inl (⟨s, (i : Int)⟩, j.2 ++ ofStr z.1)) ?_ F (k + 1, []) ⟨by simp only; omega, by simp⟩ (by simp only; omega)) fun t ht => ?_)
 ·rintro ⟨j, out⟩ ⟨hj, ho⟩
  simp only at hj ho
  simp only [un2]
  rw [peek_ok F hj, Option.bind_some]
  cases hr : s.drop j with
  | nil =>
   rw [if_pos (by decide)]
   refine .inr ⟨_, ?_, rfl⟩
   simp only [Option.bind_some, pk, lexer_scanner_fail_S, alt2]
   rfl
  | cons b r =>
   have hlt := drop_lt hr
   have hrs := drop_succ hr
   have h34 : decide (pk (b :: r) = 34) = decide (b = 34) := pk_34 (b :: r)
   have h92 : decide (pk (b :: r) = 92) = decide (b = 92) := toNat_eq b 92 (by decide)
   by_cases hb : b = 34
   ·subst hb
    rw [if_neg (by simp [pk])]
    refine .inr ⟨_, rfl, ?_⟩
    rw [textG_cons, if_pos rfl]
    exact ⟨j, rfl, by simp [ofStr]⟩
   ·rw [if_pos (by rw [decide_not, h34]; simp [hb])]
    simp only [Option.bind_some]
    by_cases hc : b = 92
    ·subst hc
     rw [if_pos (by simp [pk]), wk j (by omega), peek_ok F (by omega), hrs, Option.bind_some]
     cases hq : r with
     | nil =>
      refine .inr ⟨.inr (.inr (⟨(k : Int), 280⟩ : Problem)), ?_, ?_⟩
      ·rw [if_pos (by decide)]
       simp only [Option.bind_some, lexer_scanner_fail_S, alt2]
      ·rw [textG_cons, if_neg (by decide), if_pos rfl]
     | cons c q1 =>
      have hrs' := hrs
      rw [hq] at hrs'
      have hlt2 := drop_lt hrs'
      have c34 : decide (pk (c :: q1) = 34) = decide (c = 34) := pk_34 (c :: q1)
      have c92 : decide (pk (c :: q1) = 92) = decide (c = 92) := toNat_eq c 92 (by decide)
      by_cases hcc : c = 34 ∨ c = 92
      ·have hin : (decide ((pk (c :: q1)) < 32) || decide (126 < (pk (c :: q1)))) = false := by
        rw [pk_cons, inT_ok]
        rcases hcc with rfl | rfl <;> rfl
       refine .inl ⟨(j + 2, out ++ [(c.toNat : Int)]), ?_, ⟨by simp only; omega, by simp; omega⟩, by simp only; omega, ?_⟩
       ·rw [if_neg]
        ·simp only [Option.bind_some, alt2, un2, hin]
         rw [if_neg (by decide)]
         simp only [Option.bind_some]
         rw [app?_eq (by simp only [List.length_cons, List.length_nil]; omega)]
         simp only [Option.bind_some, pk_cons, alt2, un2]
         rw [wk (j + 1) (by omega)]
        ·rw [decide_not, decide_not, c34, c92]
         rcases hcc with rfl | rfl <;> decide
       ·intro t ht
        simp only at ht ⊢
        rw [show j + 2 = j + 1 + 1 from rfl, drop_succ hrs'] at ht
        rw [textG_cons, if_neg (by decide), if_pos rfl]
        simp only [if_pos hcc]
        cases hg : textG q1 with
        | none => rw [hg] at ht; exact ht
        | some z =>
         rw [hg] at ht
         obtain ⟨i, hi, ht⟩ := ht
         exact ⟨i, by simp only; omega, by rw [ht]; simp [ofStr]⟩
      ·refine .inr ⟨.inr (.inr (⟨(k : Int), 280⟩ : Problem)), ?_, ?_⟩
       ·rw [if_pos]
        ·simp only [Option.bind_some, lexer_scanner_fail_S, alt2]
        ·rw [decide_not, decide_not, c34, c92]
         simpa using hcc
       ·rw [textG_cons, if_neg (by decide), if_pos rfl]
        simp only [if_neg hcc]
    ·rw [if_neg (by rw [h92]; simpa using hc)]
     simp only [Option.bind_some, alt2, un2]
     by_cases hin : inT b = true
     ·have hin' : (decide ((pk (b :: r)) < 32) || decide (126 < (pk (b :: r)))) = false := by
       rw [pk_cons, inT_ok, hin]; rfl
      refine .inl ⟨(j + 1, out ++ [(b.toNat : Int)]), ?_, ⟨by simp only; omega, by simp; omega⟩, by simp only; omega, ?_⟩
      ·rw [hin', if_neg (by decide)]
       simp only [Option.bind_some]
       rw [app?_eq (by simp only [List.length_cons, List.length_nil]; omega)]
       simp only [Option.bind_some, pk_cons, alt2, un2]
       rw [wk j (by omega)]
      ·intro t ht
       simp only at ht ⊢
       rw [hrs] at ht
       rw [textG_cons, if_neg hb, if_neg hc, if_pos hin]
       cases hg : textG r with
       | none => rw [hg] at ht; exact ht
       | some z =>
        rw [hg] at ht
        obtain ⟨i, hi, ht⟩ := ht
        exact ⟨i, by simp only; omega, by rw [ht]; simp [ofStr]⟩
     ·have hin' : (decide ((pk (b :: r)) < 32) || decide (126 < (pk (b :: r)))) = true := by
       rw [pk_cons, inT_ok]; simpa using hin
      refine .inr ⟨.inr (.inr (⟨(k : Int), 280⟩ : Problem)), ?_, ?_⟩
      ·rw [hin', if_pos rfl]
       simp only [Option.bind_some, lexer_scanner_fail_S, alt2]
      ·rw [textG_cons, if_neg hb, if_neg hc, if_neg hin]
 ·simp only at ht
  rw [hds] at ht
  unfold textT
  simp only [List.drop_succ_cons, List.drop_zero]
  cases hg : textG q with
  | none =>
   rw [hg] at ht
   subst ht
   exact Yld.some rfl
  | some z =>
   rw [hg] at ht
   obtain ⟨i, hi, rfl⟩ := ht
   have hp := textG_pos q z hg
   have hql : q.length + (k + 1) = s.length := by
    have := congrArg List.length hds
    rw [List.length_drop] at this; omega
   have e0 : (([] : List Int) ++ ofStr z.1) = ofStr z.1 := rfl
   have e1 : (ofStr z.1).length = z.1.length := by simp [ofStr]
   simp only [alt2, un2]
   rw [e0, e1]
   by_cases h80 : 80 < z.1.length
   ·rw [if_pos h80, if_pos (decide_eq_true (by omega))]
    exact Yld.some rfl
   ·rw [if_neg h80, if_neg (by simp; omega)]
    simp only [Option.bind_some]
    rw [toStr_of, wk i (by omega)]
    refine Yld.some ?_
    show _ = Sum.inl _
    rw [show i + 1 = k + (z.2 + 1) by omega]
end Go.Proofs.YtbcdabflmkgkiaaGreatDoor

namespace Go.Proofs.YtbcdabflmkgkiaaGreatDoor
open Go Go.Sk
set_option linter.unusedVariables false
set_option linter.unusedSimpArgs false
theorem first_yld {l : List Str} {c : Str → Bool} {υ : Type} {Q : Unit ⊕ υ → Prop} {F : Nat} {A : Int → Option (Int ⊕ (Unit ⊕ υ))} (hF : l.length < F) (hL : l.length ≤ 100000000)
  (h1 : l.find? c = none → Q (.inl ())) (h0 : ∀ (i : Int) x, idx? l i = some x → c x = false → A i = some (.inl (IntKind.i64.wrap (i + 1))))
  (h2 : ∀ (i : Int) x, idx? l i = some x → 0 ≤ i → c x = true → l.find? c = some x → Yld (A i) fun o => ∃ t, o = .inr t ∧ Q t) :
  Yld (iter F (fun i => if decide (i < (l.length : Int)) = true then A i else some (.inr (.inl ()))) 0) Q := by
 refine Yld.ea1 (fun pre => pre.find? c = none) hF (by omega) rfl (fun pre x post e hx hI => ?_) (fun h => h1 h)
 by_cases hc : c x = true
 ·refine (h2 _ x hx (by omega) hc ?_).mono fun o ho => .inr ho
  rw [e, List.find?_append, hI, List.find?_cons, hc]; rfl
 ·have hc' : c x = false := by simpa using hc
  rw [h0 _ x hx hc']
  refine Yld.some (.inl ⟨rfl, ?_⟩)
  rw [List.find?_append, hI, List.find?_cons, hc']; rfl
theorem sign_ok {F : Nat} {s : Str} {k : Nat} (hk : k ≤ s.length) (hF : 100 < F) (hs : s.length ≤ 100000000) : lexer_scanner_sign_S F s (k : Int) = some (match signT (s.drop k) with | .bad e => .inr ⟨(k : Int), e⟩ | .got kd t n => .inl (⟨kd, (k : Int), t⟩, true, ((k + n : Nat) : Int))) := by
 unfold lexer_scanner_sign_S slices_IndexFunc_S
 have hl : signsT.length = 25 := rfl
 have hs2 : ∀ g ∈ signsT, g.length ≤ 2 := by decide
 refine Yld.eq (Yld.bind (P := fun i : Int => (signsT.find? (fun g => g.isPrefixOf (s.drop k)) = none ∧ i = -1) ∨ ∃ g, signsT.find? (fun g => g.isPrefixOf (s.drop k)) = some g ∧ 0 ≤ i ∧ idx? signsT i = some g) (Yld.bind (first_yld (c := fun g => g.isPrefixOf (s.drop k)) (Q := fun t => (signsT.find? (fun g => g.isPrefixOf (s.drop k)) = none ∧ t = .inl ()) ∨ ∃ g i, signsT.find? (fun g => g.isPrefixOf (s.drop k)) = some g ∧ 0 ≤ i ∧ idx? signsT i = some g ∧ t = .inr i) (by omega) (by omega) (fun h => .inl ⟨h, rfl⟩) (fun i x hx hc => ?_) (fun i x hx h0 hc hf => ?_)) (fun t ht => ?_)) (fun i hi => ?_))
 ·rw [hx, Option.bind_some]
  unfold lexer_scanner_sign_1_S strings_HasPrefix_S drop?
  rw [if_pos ⟨by omega, by omega⟩]
  simp only [Option.bind_some, Int.toNat_natCast, Lib.hasPrefix, hc, Bool.false_eq_true, if_false]
 ·rw [hx, Option.bind_some]
  unfold lexer_scanner_sign_1_S strings_HasPrefix_S drop?
  rw [if_pos ⟨by omega, by omega⟩]
  simp only [Option.bind_some, Int.toNat_natCast, Lib.hasPrefix, hc, if_true]
  exact Yld.some ⟨_, rfl, .inr ⟨x, i, hf, h0, hx, rfl⟩⟩
 ·rcases ht with ⟨h, rfl⟩ | ⟨g, i, h, h0, hi, rfl⟩
  ·exact Yld.some (.inl ⟨h, rfl⟩)
  ·exact Yld.some (.inr ⟨g, h, h0, hi⟩)
 ·unfold signT
  rcases hi with ⟨h, rfl⟩ | ⟨g, h, h0, hi⟩
  ·rw [h, if_pos (by decide)]
   exact Yld.some rfl
  ·rw [h, if_neg (by simp; omega)]
   simp only [Option.bind_some, alt2, hi]
   have hg := hs2 g (List.mem_of_find?_eq_some h)
   rw [show (k : Int) + (g.length : Int) = ((k + g.length : Nat) : Int) by omega, wr (by omega) (by omega)]
   exact Yld.some rfl
theorem pre_take {g r : Str} : g.isPrefixOf r = true ↔ g.length ≤ r.length ∧ r.take g.length = g := by
  rw [List.isPrefixOf_iff_prefix]
  constructor
  · rintro ⟨t, rfl⟩
    exact ⟨by simp, by simp⟩
  · rintro ⟨h1, h2⟩
    exact ⟨r.drop g.length, by conv => lhs; lhs; rw [← h2]
                               exact List.take_append_drop _ _⟩
end Go.Proofs.YtbcdabflmkgkiaaGreatDoor

namespace Go.Proofs.YtbcdabflmkgkiaaGreatDoor
open Go Go.Sk
set_option linter.unusedVariables false
set_option linter.unusedSimpArgs false
inductive Lx : Nat → Str → List Token ⊕ Problem → Prop
 | done {k : Nat} {r : Str} (h : sk false r = []) : Lx k r (.inl [])
 | bad {k j : Nat} {r q : Str} {b : UInt8} {e : Int} (h : sk false r = b :: q) (hj : k + r.length = j + (q.length + 1)) (ht : tok (b :: q) = .bad e) : Lx k r (.inr ⟨(j : Int), e⟩)
 | err {k j : Nat} {r q : Str} {b : UInt8} {kd : Int} {t : Str} {m : Nat} {p : Problem} (h : sk false r = b :: q) (hj : k + r.length = j + (q.length + 1)) (ht : tok (b :: q) = .got kd t m) (hl : Lx (j + m) ((b :: q).drop m) (.inr p)) : Lx k r (.inr p)
 | one {k j : Nat} {r q : Str} {b : UInt8} {kd : Int} {t : Str} {m : Nat} {l : List Token} (h : sk false r = b :: q) (hj : k + r.length = j + (q.length + 1)) (ht : tok (b :: q) = .got kd t m) (hl : Lx (j + m) ((b :: q).drop m) (.inl l)) : Lx k r (.inl (⟨kd, (j : Int), t⟩ :: l))
theorem sign_mem {r : Str} {kd : Int} {t : Str} {m : Nat} (h : signT r = .got kd t m) : t ∈ signsT ∧ m = t.length ∧ kd = 5 ∧ t.isPrefixOf r = true := by
 unfold signT at h
 cases hf : signsT.find? (fun g => g.isPrefixOf r) with
 | none => rw [hf] at h; cases h
 | some g =>
  rw [hf] at h
  cases h
  exact ⟨List.mem_of_find?_eq_some hf, rfl, rfl, by simpa using List.find?_some hf⟩
theorem numL_pos {b : UInt8} {q : Str} (h : isD b = true) : 1 ≤ (numL (b :: q)).1 := by
 have h0 : 1 ≤ ((b :: q).takeWhile isD).length := by rw [List.takeWhile_cons_of_pos h]; simp
 unfold numL
 split
 ·split <;> simp only <;> omega
 ·exact h0
theorem tok_pos {b : UInt8} {q : Str} {kd : Int} {t : Str} {m : Nat} (h : tok (b :: q) = .got kd t m) : 1 ≤ m ∧ m ≤ q.length + 1 := by
 unfold tok at h
 simp only at h
 split at h
 ·next hb =>
  unfold nameT at h
  split at h
  ·cases h
  ·cases h
   have hn : isN b = true := by unfold isN; rw [hb]; rfl
   have := tw_le isN (b :: q)
   rw [List.takeWhile_cons_of_pos hn] at this ⊢
   simp only [List.length_cons] at *
   omega
 ·split at h
  ·next hb =>
   unfold numT at h
   split at h
   ·cases h
   ·split at h
    ·cases h
    ·cases h
     have h1 := numL_pos (q := q) hb
     have h2 := numL_le (b :: q)
     simp only [List.length_cons] at h2
     omega
  ·split at h
   ·unfold textT at h
    simp only [List.drop_succ_cons, List.drop_zero] at h
    cases hg : textG q with
    | none => rw [hg] at h; cases h
    | some z =>
     rw [hg] at h
     simp only at h
     split at h
     ·cases h
     ·cases h
      have := textG_pos q z hg
      omega
   ·obtain ⟨h1, h2, h3, h4⟩ := sign_mem h
    have hs : ∀ g ∈ signsT, 1 ≤ g.length := by decide
    have := hs t h1
    have := (pre_take.1 h4).1
    simp only [List.length_cons] at this
    omega
theorem tok_bad {r : Str} {e : Int} (h : tok r = .bad e) : e = 2 ∨ e = 280 ∨ e = 281 := by
 unfold tok at h
 split at h
 ·cases h; simp
 ·split at h
  ·unfold nameT at h
   split at h
   ·cases h; simp
   ·cases h
  ·split at h
   ·unfold numT at h
    split at h
    ·cases h; simp
    ·split at h
     ·cases h; simp
     ·cases h
   ·split at h
    ·unfold textT at h
     split at h
     ·cases h; simp
     ·split at h
      ·cases h; simp
      ·cases h
    ·unfold signT at h
     split at h
     ·cases h; simp
     ·cases h
theorem Lx.total : ∀ (n k : Nat) (r : Str), r.length ≤ n → ∃ res, Lx k r res := by
 intro n
 induction n with
 | zero =>
  intro k r h
  have : r = [] := List.eq_nil_of_length_eq_zero (by omega)
  subst this
  exact ⟨_, .done rfl⟩
 | succ n ih =>
  intro k r h
  have hl := sk_len r false
  cases hs : sk false r with
  | nil => exact ⟨_, .done hs⟩
  | cons b q =>
   rw [hs] at hl
   simp only [List.length_cons] at hl
   have hj : k + r.length = (k + r.length - (q.length + 1)) + (q.length + 1) := by omega
   cases ht : tok (b :: q) with
   | bad e => exact ⟨_, .bad hs hj ht⟩
   | got kd t m =>
    have hp := tok_pos ht
    obtain ⟨res, hr⟩ := ih ((k + r.length - (q.length + 1)) + m) ((b :: q).drop m) (by rw [List.length_drop, List.length_cons]; omega)
    cases res with
    | inl l => exact ⟨_, .one hs hj ht hr⟩
    | inr p => exact ⟨_, .err hs hj ht hr⟩
theorem main_loop {σ τ : Type} {s : Str} {body : σ → Option (σ ⊕ τ)} (st : List Token → Nat → σ) (fin : List Token → τ) (fail : Problem → τ)
  (h0 : ∀ out, body (st out s.length) = some (.inr (fin out)))
  (h1 : ∀ out k b q, s.drop k = b :: q → out.length ≤ k → Yld (body (st out k)) fun o => match tok (b :: q) with | .bad e => o = .inr (fail ⟨(k : Int), e⟩) | .got kd t m => o = .inl (st (out ++ [⟨kd, (k : Int), t⟩]) (sp s (k + m))))
  {k : Nat} {r : Str} {res : List Token ⊕ Problem} (h : Lx k r res) : ∀ (out : List Token) (G : Nat), s.drop k = r → k ≤ s.length → out.length ≤ k → s.length - k < G →
  iter G body (st out (sp s k)) = some (match res with | .inl l => fin (out ++ l) | .inr p => fail p) := by
 induction h with
 | @done k r h =>
  intro out G hr hk ho hG
  obtain ⟨G, rfl⟩ : ∃ g, G = g + 1 := ⟨G - 1, by omega⟩
  have : sp s k = s.length := by unfold sp; rw [hr, h]; simp
  rw [this, iter_succ, h0]
  simp [alt2]
 | @bad k j r q b e h hj ht =>
  intro out G hr hk ho hG
  obtain ⟨G, rfl⟩ : ∃ g, G = g + 1 := ⟨G - 1, by omega⟩
  have hl : r.length = s.length - k := by rw [← hr, List.length_drop]
  have e1 : sp s k = j := by unfold sp; rw [hr, h]; simp only [List.length_cons]; omega
  have e2 := sp_drop hk
  rw [e1, hr, h] at e2
  have hjk := sp_ge hk
  rw [e1] at hjk
  obtain ⟨o, ho2, hq⟩ := h1 out j b q e2 (by omega)
  rw [ht] at hq
  rw [e1, iter_succ, ho2, hq]
  rfl
 | @err k j r q b kd t m p h hj ht hl ih =>
  intro out G hr hk ho hG
  obtain ⟨G, rfl⟩ : ∃ g, G = g + 1 := ⟨G - 1, by omega⟩
  have hl : r.length = s.length - k := by rw [← hr, List.length_drop]
  have e1 : sp s k = j := by unfold sp; rw [hr, h]; simp only [List.length_cons]; omega
  have e2 := sp_drop hk
  rw [e1, hr, h] at e2
  have hjk := sp_ge hk
  rw [e1] at hjk
  obtain ⟨o, ho2, hq⟩ := h1 out j b q e2 (by omega)
  rw [ht] at hq
  have hp := tok_pos ht
  rw [e1, iter_succ, ho2, hq]
  exact ih _ _ (by rw [← List.drop_drop, e2]) (by omega) (by simp; omega) (by omega)
 | @one k j r q b kd t m l h hj ht hl ih =>
  intro out G hr hk ho hG
  obtain ⟨G, rfl⟩ : ∃ g, G = g + 1 := ⟨G - 1, by omega⟩
  have hl : r.length = s.length - k := by rw [← hr, List.length_drop]
  have e1 : sp s k = j := by unfold sp; rw [hr, h]; simp only [List.length_cons]; omega
  have e2 := sp_drop hk
  rw [e1, hr, h] at e2
  have hjk := sp_ge hk
  rw [e1] at hjk
  obtain ⟨o, ho2, hq⟩ := h1 out j b q e2 (by omega)
  rw [ht] at hq
  have hp := tok_pos ht
  rw [e1, iter_succ, ho2, hq]
  have := ih (out ++ [⟨kd, (j : Int), t⟩]) G (by rw [← List.drop_drop, e2]) (by omega) (by simp; omega) (by omega)
  simp only [alt2, Option.bind_some]
  rw [this]
  simp
theorem iter_step {σ τ : Type} {body : σ → Option (σ ⊕ τ)} {F : Nat} {s : σ} (h : 0 < F) : iter F body s = (body s).bind (alt2 (iter (F - 1) body) some) := by
 obtain ⟨G, rfl⟩ : ∃ g, F = g + 1 := ⟨F - 1, by omega⟩
 rfl
def outP : List Token ⊕ Problem → List Token × Problem
 | .inl l => (l, ⟨0, 0⟩)
 | .inr p => ([], p)
theorem tokens_ok {F : Nat} {s : Str} {res : List Token ⊕ Problem} (hs : s.length ≤ 100000) (hF : s.length + 1000 < F) (h : Lx 0 s res) : lexer_Tokens_S F s = some (outP res) := by
 unfold lexer_Tokens_S
 rw [if_neg (by simp; omega)]
 have hsk := skip_ok (F := F) (s := s) (k := 0) (by omega) (by omega) (by omega)
 rw [show (((0 : Nat) : Int)) = 0 from rfl] at hsk
 rw [hsk]
 simp only [Option.bind_some, un2]
 rw [main_loop (s := s) (fun out k => (out, (⟨s, (k : Int)⟩ : Scan))) (fun l => .inl l) (fun p => .inr ([], p)) ?_ ?_ h [] F rfl (by omega) (by simp) (by omega)]
 ·cases res <;> rfl
 ·intro out
  simp only [un2]
  rw [if_neg (by simp)]
 ·intro out k b q hd ho
  have hk := drop_lt hd
  simp only [un2]
  rw [if_pos (decide_eq_true (by omega))]
  refine Yld.bind (P := fun o => match tok (b :: q) with | .bad e => o = .inr ([], ⟨(k : Int), e⟩) | .got kd t m => o = .inl (out ++ [⟨kd, (k : Int), t⟩], ⟨s, ((k + m : Nat) : Int)⟩)) (Yld.bind (P := fun o => match tok (b :: q) with | .bad e => o = .inr ([], ⟨(k : Int), e⟩) | .got kd t m => o = .inl (out ++ [⟨kd, (k : Int), t⟩], ⟨s, ((k + m : Nat) : Int)⟩)) ?_ ?_) ?_
  ·have happ : ∀ x : Token, app? out [x] = some (out ++ [x]) := fun x => app?_eq (by simp only [List.length_cons, List.length_nil]; omega)
   rw [iter_step (by omega)]
   try simp only [un2]
   rw [if_pos (by simp), if_pos (by simp)]
   by_cases hl : isL b = true
   ·have e : tok (b :: q) = nameT (b :: q) := by simp only [tok, if_pos hl]
    rw [e, name_ok hd hl (by omega) (by omega) (by omega), hd, Option.bind_some]
    cases nameT (b :: q) with
    | bad e => exact Yld.some rfl
    | got kd t m =>
     simp only [Tk.res, altP, un4, if_true, happ, Option.bind_some]
     exact Yld.some rfl
   ·have hl' : isL b = false := by simpa using hl
    rw [name_no hd hl']
    simp only [Option.bind_some, altP, un4, Bool.false_eq_true, if_false, alt2]
    rw [show IntKind.i64.wrap (0 + 1) = 1 from rfl, iter_step (by omega)]
    try simp only [un2]
    rw [if_pos (by simp), if_neg (by simp), if_pos (by simp)]
    by_cases hg : isD b = true
    ·have e : tok (b :: q) = numT (b :: q) := by simp only [tok, if_neg hl, if_pos hg]
     rw [e, number_ok hd hg (by omega) (by omega), hd, Option.bind_some]
     cases numT (b :: q) with
     | bad e => exact Yld.some rfl
     | got kd t m =>
      simp only [Tk.res, altP, un4, if_true, happ, Option.bind_some]
      exact Yld.some rfl
    ·have hg' : isD b = false := by simpa using hg
     rw [number_no hd hg' (by omega) (by omega)]
     simp only [Option.bind_some, altP, un4, Bool.false_eq_true, if_false, alt2]
     rw [show IntKind.i64.wrap (1 + 1) = 2 from rfl, iter_step (by omega)]
     try simp only [un2]
     rw [if_pos (by simp), if_neg (by simp), if_neg (by simp), if_pos (by simp)]
     by_cases hb : b = 34
     ·subst hb
      have e : tok (34 :: q) = textT (34 :: q) := by simp only [tok, if_neg hl, if_neg hg, if_true]
      rw [e, text_ok hd (by omega) (by omega), hd, Option.bind_some]
      cases textT (34 :: q) with
      | bad e => exact Yld.some rfl
      | got kd t m =>
       simp only [Tk.res, altP, un4, if_true, happ, Option.bind_some]
       exact Yld.some rfl
     ·rw [text_no hd hb]
      simp only [Option.bind_some, altP, un4, Bool.false_eq_true, if_false, alt2]
      rw [show IntKind.i64.wrap (2 + 1) = 3 from rfl, iter_step (by omega)]
      try simp only [un2]
      rw [if_pos (by simp), if_neg (by simp), if_neg (by simp), if_neg (by simp), if_pos (by simp)]
      have e : tok (b :: q) = signT (b :: q) := by simp only [tok, if_neg hl, if_neg hg, if_neg hb]
      rw [e, sign_ok (by omega) (by omega) (by omega), hd, Option.bind_some]
      cases signT (b :: q) with
      | bad e => exact Yld.some rfl
      | got kd t m =>
       simp only [altP, un3, if_true, happ, Option.bind_some]
       exact Yld.some rfl
  ·intro o ho2
   cases ht : tok (b :: q) with
   | bad e => rw [ht] at ho2; subst ho2; exact Yld.some rfl
   | got kd t m => rw [ht] at ho2; subst ho2; exact Yld.some rfl
  ·intro o ho2
   cases ht : tok (b :: q) with
   | bad e => rw [ht] at ho2; subst ho2; exact Yld.some rfl
   | got kd t m =>
    rw [ht] at ho2
    subst ho2
    have hp := tok_pos ht
    have hlen : q.length + 1 = s.length - k := by
     have := congrArg List.length hd
     rw [List.length_drop, List.length_cons] at this; omega
    simp only [alt2, un2]
    rw [skip_ok (by omega) (by omega) (by omega), Option.bind_some]
    exact Yld.some rfl
theorem tokensR_ok {F : Nat} {s : Str} {res : List Token ⊕ Problem} (hs : s.length ≤ 100000) (hF : s.length + 1000 < F) (h : Lx 0 s res) : lexer_TokensR_S F s = some (outP res) := tokens_ok hs hF h
end Go.Proofs.YtbcdabflmkgkiaaGreatDoor

namespace Go.Proofs.YtbcdabflmkgkiaaGreatDoor
open Go Go.Sk
set_option linter.unusedVariables false
set_option linter.unusedSimpArgs false
def isQ (b : UInt8) : Bool := decide (b = 34) || decide (b = 92)
def esc1 (b : UInt8) : Str := if isQ b then [92, b] else [b]
def esc (s : Str) : Str := s.flatMap esc1
def qs (s : Str) : Nat := s.countP isQ
theorem esc_nil : esc [] = [] := rfl
theorem esc_cons (b : UInt8) (s : Str) : esc (b :: s) = esc1 b ++ esc s := rfl
def wrt (k : Int) (t : Str) : Str := if k = 4 then 34 :: (esc t ++ [34]) else t
end Go.Proofs.YtbcdabflmkgkiaaGreatDoor

namespace Go.Proofs.YtbcdabflmkgkiaaGreatDoor
open Go Go.Sk
set_option linter.unusedVariables false
set_option linter.unusedSimpArgs false
def isP (c : UInt8) : Bool := isS c || decide (c = 35)
def Sep (r : Str) : Prop := ∀ c q, r = c :: q → isP c = true
theorem sep_cons {c : UInt8} {q : Str} (h : isP c = true) : Sep (c :: q) := fun c' q' e => by injection e with e1 _; rw [← e1]; exact h
theorem isP_no (c : UInt8) (h : isP c = true) : isN c = false ∧ isD c = false ∧ isL c = false ∧ c ≠ 46 ∧ c ≠ 95 ∧ c ≠ 34 := by
 have h2 : ∀ c : UInt8, decide (isP c = true → isN c = false ∧ isD c = false ∧ isL c = false ∧ c ≠ 46 ∧ c ≠ 95 ∧ c ≠ 34) = true := bytes_all (by decide +kernel)
 exact of_decide_eq_true (h2 c) h
theorem tw_app {p : UInt8 → Bool} : ∀ {t rest : Str}, (∀ x ∈ t, p x = true) → (∀ c q, rest = c :: q → p c = false) → (t ++ rest).takeWhile p = t ∧ (t ++ rest).dropWhile p = rest
 | [], rest, _, h => by
  cases rest with
  | nil => exact ⟨rfl, rfl⟩
  | cons c q =>
   have := h c q rfl
   exact ⟨List.takeWhile_cons_of_neg (by simp [this]), List.dropWhile_cons_of_neg (by simp [this])⟩
 | b :: t, rest, ht, h => by
  have hb := ht b (by simp)
  obtain ⟨h1, h2⟩ := tw_app (t := t) (rest := rest) (fun x hx => ht x (by simp [hx])) h
  rw [List.cons_append, List.takeWhile_cons_of_pos hb, List.dropWhile_cons_of_pos hb, h1, h2]
  exact ⟨rfl, rfl⟩
theorem tw_all {p : UInt8 → Bool} (r : Str) : ∀ x ∈ r.takeWhile p, p x = true := by
 intro x hx
 exact List.all_eq_true.1 (List.all_takeWhile (p := p) (l := r)) x hx
theorem tw_dw (p : UInt8 → Bool) (r : Str) : r.takeWhile p ++ r.dropWhile p = r := List.takeWhile_append_dropWhile
theorem nameT_app {t rest : Str} (ht : ∀ x ∈ t, isN x = true) (h : ∀ c q, rest = c :: q → isN c = false) : nameT (t ++ rest) = if 32 < t.length then .bad 2 else .got (if isW t then 1 else 2) t t.length := by
 unfold nameT
 rw [(tw_app ht h).1]
def zeroA (A : Str) : Bool := decide (1 < A.length) && decide (pk A = 48)
theorem pk_app {A r : Str} (h : A ≠ []) : pk (A ++ r) = pk A := by
 cases A with
 | nil => exact absurd rfl h
 | cons a A => rfl
theorem num_one {A D : Str} (hA : ∀ x ∈ A, isD x = true) (h0 : A ≠ []) (hD : ∀ c q, D = c :: q → isD c = false) (hd : ∀ d q, D = 46 :: d :: q → isD d = false) :
  numT (A ++ D) = if 40 < A.length then .bad 2 else if zeroA A || lu D then .bad 281 else .got 3 A A.length := by
 obtain ⟨h1, h2⟩ := tw_app hA hD
 have hn : numL (A ++ D) = (A.length, A.length) := by
  rw [numL_no (by rw [h2]; exact hd), h1]
 unfold numT zero2 zeroA
 rw [hn, h1, pk_app h0]
 simp only [List.drop_left, List.take_left]
theorem num_two {A B D : Str} (hA : ∀ x ∈ A, isD x = true) (h0 : A ≠ []) (hB : ∀ x ∈ B, isD x = true) (h1 : B ≠ []) (hD : ∀ c q, D = c :: q → isD c = false) :
  numT (A ++ 46 :: (B ++ D)) = if 40 < A.length + B.length then .bad 2 else if zeroA A || lu D then .bad 281 else .got 3 (A ++ 46 :: B) (A.length + 1 + B.length) := by
 obtain ⟨e1, e2⟩ := tw_app (p := isD) (rest := 46 :: (B ++ D)) hA (by intro c q h; injection h with h _; rw [← h]; rfl)
 obtain ⟨e3, e4⟩ := tw_app hB hD
 have hn : numL (A ++ 46 :: (B ++ D)) = (A.length + 1 + B.length, A.length + B.length) := by
  cases B with
  | nil => exact absurd rfl h1
  | cons d B' =>
   rw [numL_dot (d := d) (q := B' ++ D) (by rw [e2]; rfl) (hB d (by simp)), e1]
   rw [show d :: (B' ++ D) = (d :: B') ++ D from rfl, e3]
 unfold numT zero2 zeroA
 rw [hn, e1, pk_app h0]
 have el : A ++ 46 :: (B ++ D) = (A ++ 46 :: B) ++ D := by simp
 have en : A.length + 1 + B.length = (A ++ 46 :: B).length := by simp; omega
 simp only
 rw [el, en, List.drop_left, List.take_left]
theorem num_split {b : UInt8} {q : Str} (hb : isD b = true) : (∃ A D, b :: q = A ++ D ∧ (∀ x ∈ A, isD x = true) ∧ A ≠ [] ∧ (∀ c q, D = c :: q → isD c = false) ∧ ∀ d q, D = 46 :: d :: q → isD d = false) ∨
  ∃ A B D, b :: q = A ++ 46 :: (B ++ D) ∧ (∀ x ∈ A, isD x = true) ∧ A ≠ [] ∧ (∀ x ∈ B, isD x = true) ∧ B ≠ [] ∧ ∀ c q, D = c :: q → isD c = false := by
 have h1 := tw_dw isD (b :: q)
 have h2 := tw_all (p := isD) (b :: q)
 have h3 : (b :: q).takeWhile isD ≠ [] := by rw [List.takeWhile_cons_of_pos hb]; simp
 have h4 := @dw_head isD (b :: q)
 by_cases hdot : ∃ d q1, (b :: q).dropWhile isD = 46 :: d :: q1 ∧ isD d = true
 ·obtain ⟨d, q1, hd, hg⟩ := hdot
  refine .inr ⟨(b :: q).takeWhile isD, (d :: q1).takeWhile isD, (d :: q1).dropWhile isD, ?_, h2, h3, tw_all _, ?_, fun c q h => dw_head h⟩
  ·rw [tw_dw, ← hd, h1]
  ·rw [List.takeWhile_cons_of_pos hg]; simp
 ·refine .inl ⟨_, _, h1.symm, h2, h3, fun c q h => h4 h, fun d q1 h => ?_⟩
  cases hg : isD d with
  | false => rfl
  | true => exact absurd ⟨d, q1, h, hg⟩ hdot
theorem lu_sep {r : Str} (h : Sep r) : lu r = false := by
 cases r with
 | nil => rfl
 | cons c q =>
  have := isP_no c (h c q rfl)
  unfold lu
  rw [pk_95]
  simp [hL, this]
theorem digit_sep {r : Str} (h : Sep r) : ∀ c q, r = c :: q → isD c = false := fun c q e => (isP_no c (h c q e)).2.1
theorem dot_sep {r : Str} (h : Sep r) : ∀ d q, r = 46 :: d :: q → isD d = false := fun d q e => absurd rfl (isP_no 46 (h 46 _ e)).2.2.2.1
theorem name_sep {r : Str} (h : Sep r) : ∀ c q, r = c :: q → isN c = false := fun c q e => (isP_no c (h c q e)).1
theorem textG_esc {S : Str} (h : ∀ x ∈ S, inT x = true) (r : Str) : textG (esc S ++ 34 :: r) = some (S, (esc S).length + 1) := by
 induction S with
 | nil => rw [esc_nil, List.nil_append, textG_cons, if_pos rfl]; rfl
 | cons b S ih =>
  have hb := h b (by simp)
  have ih := ih fun x hx => h x (by simp [hx])
  rw [esc_cons, List.append_assoc]
  by_cases hq : isQ b = true
  ·have e1 : esc1 b = [92, b] := by unfold esc1; rw [if_pos hq]
   have hq' : b = 34 ∨ b = 92 := by simpa [isQ] using hq
   rw [e1, List.cons_append, textG_cons, if_neg (by decide), if_pos rfl]
   simp only [List.cons_append, List.nil_append, if_pos hq', ih, Option.map_some, List.length_cons, List.length_append]
  ·have e1 : esc1 b = [b] := by unfold esc1; rw [if_neg hq]
   have hq' : b ≠ 34 ∧ b ≠ 92 := by simpa [isQ] using hq
   rw [e1, List.cons_append, textG_cons, if_neg hq'.1, if_neg hq'.2, if_pos hb]
   simp only [List.nil_append, ih, Option.map_some, List.length_cons, List.cons_append]
theorem textG_inv : ∀ (r : Str) (z : Str × Nat), textG r = some z → (∀ x ∈ z.1, inT x = true) ∧ r.take z.2 = esc z.1 ++ [34] ∧ z.2 = (esc z.1).length + 1
 | [], z, h => by cases h
 | b :: r, z, h => by
  rw [textG_cons] at h
  by_cases hb : b = 34
  ·rw [if_pos hb] at h
   cases h
   subst hb
   exact ⟨by simp, rfl, rfl⟩
  ·rw [if_neg hb] at h
   by_cases hc : b = 92
   ·rw [if_pos hc] at h
    subst hc
    cases r with
    | nil => cases h
    | cons c q =>
     simp only at h
     by_cases hcc : c = 34 ∨ c = 92
     ·rw [if_pos hcc] at h
      obtain ⟨y, hy, rfl⟩ := Option.map_eq_some_iff.1 h
      obtain ⟨h1, h2, h3⟩ := textG_inv q y hy
      have e1 : esc1 c = [92, c] := by unfold esc1; rw [if_pos (by simpa [isQ] using hcc)]
      have hin : inT c = true := by rcases hcc with rfl | rfl <;> rfl
      refine ⟨?_, ?_, ?_⟩
      ·intro x hx
       rcases List.mem_cons.1 hx with rfl | hx
       ·exact hin
       ·exact h1 x hx
      ·simp only [List.take_succ_cons, h2, esc_cons, e1]; rfl
      ·simp only [esc_cons, e1, List.length_append, h3, List.length_cons, List.length_nil]; omega
     ·rw [if_neg hcc] at h; cases h
   ·rw [if_neg hc] at h
    by_cases hin : inT b = true
    ·rw [if_pos hin] at h
     obtain ⟨y, hy, rfl⟩ := Option.map_eq_some_iff.1 h
     obtain ⟨h1, h2, h3⟩ := textG_inv r y hy
     have e1 : esc1 b = [b] := by unfold esc1; rw [if_neg (by simp [isQ, hb, hc])]
     refine ⟨?_, ?_, ?_⟩
     ·intro x hx
      rcases List.mem_cons.1 hx with rfl | hx
      ·exact hin
      ·exact h1 x hx
     ·simp only [List.take_succ_cons, h2, esc_cons, e1]; rfl
     ·simp only [esc_cons, e1, List.length_append, h3, List.length_cons, List.length_nil]; omega
    ·rw [if_neg hin] at h; cases h
theorem textG_none : ∀ (r b : Str), textG r = none → textG (r ++ 10 :: b) = none
 | [], b, _ => by rw [List.nil_append, textG_cons, if_neg (by decide), if_neg (by decide), if_neg (by decide)]
 | [x], b, h => by
  rw [List.cons_append, textG_cons]
  by_cases hb : x = 34
  ·subst hb; cases h
  ·rw [if_neg hb]
   by_cases hc : x = 92
   ·rw [if_pos hc]; rfl
   ·rw [if_neg hc]
    have e10 : textG (10 :: b) = none := by rw [textG_cons, if_neg (by decide), if_neg (by decide), if_neg (by decide)]
    rw [List.nil_append, e10]
    split <;> rfl
 | x :: c :: q, b, h => by
  rw [textG_cons] at h
  rw [List.cons_append, List.cons_append, textG_cons]
  by_cases hb : x = 34
  ·rw [if_pos hb] at h; cases h
  ·rw [if_neg hb] at h ⊢
   by_cases hc : x = 92
   ·rw [if_pos hc] at h ⊢
    simp only at h ⊢
    by_cases hcc : c = 34 ∨ c = 92
    ·rw [if_pos hcc] at h ⊢
     have := textG_none q b (by simpa using h)
     rw [this]; rfl
    ·rw [if_neg hcc]
   ·rw [if_neg hc] at h ⊢
    by_cases hin : inT x = true
    ·rw [if_pos hin] at h ⊢
     have := textG_none (c :: q) b (by simpa using h)
     rw [← List.cons_append, this]; rfl
    ·rw [if_neg hin]
theorem textG_some {r : Str} {z : Str × Nat} (h : textG r = some z) (b : Str) : textG (r ++ b) = some z := by
 obtain ⟨h1, h2, h3⟩ := textG_inv r z h
 have e : r ++ b = esc z.1 ++ 34 :: (r.drop z.2 ++ b) := by
  conv => lhs; rw [← List.take_append_drop z.2 r, h2]
  simp
 rw [e, textG_esc h1, ← h3]
theorem pre_sep : ∀ {g w rest : Str}, (∀ x ∈ g, isP x = false) → Sep rest → g.isPrefixOf (w ++ rest) = g.isPrefixOf w
 | [], w, rest, _, _ => by simp
 | x :: g, [], rest, hg, hs => by
  cases rest with
  | nil => rfl
  | cons c q =>
   have h1 := hg x (by simp)
   have h2 := hs c q rfl
   have : (x == c) = false := by
    simp only [beq_eq_false_iff_ne]
    rintro rfl; rw [h1] at h2; cases h2
   simp [List.isPrefixOf, this]
 | x :: g, y :: w, rest, hg, hs => by
  have ih := pre_sep (g := g) (w := w) (rest := rest) (fun z hz => hg z (by simp [hz])) hs
  simp only [List.cons_append, List.isPrefixOf, ih]
theorem signs_sep : ∀ g ∈ signsT, ∀ x ∈ g, isP x = false := by decide
theorem sign_sep {w rest : Str} (hs : Sep rest) : signT (w ++ rest) = signT w := by
 unfold signT
 have : ∀ l : List Str, (∀ g ∈ l, ∀ x ∈ g, isP x = false) → l.find? (fun g => g.isPrefixOf (w ++ rest)) = l.find? (fun g => g.isPrefixOf w) := by
  intro l
  induction l with
  | nil => intro _; rfl
  | cons g l ih =>
   intro h
   rw [List.find?_cons, List.find?_cons, pre_sep (h g (by simp)) hs, ih fun g hg => h g (by simp [hg])]
 rw [this signsT signs_sep]
theorem sep_nl (b : Str) : Sep (10 :: b) := sep_cons rfl
theorem tok_nl {x : UInt8} {q : Str} (b : Str) : tok (x :: q ++ 10 :: b) = tok (x :: q) := by
 have hs := sep_nl b
 rw [List.cons_append]
 unfold tok
 simp only
 by_cases hl : isL x = true
 ·rw [if_pos hl, if_pos hl]
  have e : x :: (q ++ 10 :: b) = (x :: q).takeWhile isN ++ ((x :: q).dropWhile isN ++ 10 :: b) := by
   rw [← List.append_assoc, tw_dw]; rfl
  rw [e, nameT_app (tw_all _), nameT]
  intro c q1 h
  cases hd : (x :: q).dropWhile isN with
  | nil => rw [hd] at h; exact name_sep hs c q1 h
  | cons c2 q2 =>
   rw [hd] at h
   injection h with h _
   rw [← h]; exact dw_head hd
 ·rw [if_neg hl, if_neg hl]
  by_cases hg : isD x = true
  ·rw [if_pos hg, if_pos hg]
   have luD : ∀ D : Str, lu (D ++ 10 :: b) = lu D := by
    intro D
    cases D with
    | nil => exact lu_sep hs
    | cons d D => rfl
   have hdD : ∀ D : Str, (∀ c q, D = c :: q → isD c = false) → ∀ c q, D ++ 10 :: b = c :: q → isD c = false := by
    intro D hD c q1 h
    cases D with
    | nil => exact digit_sep hs c q1 h
    | cons d D =>
     injection h with h _
     rw [← h]; exact hD d D rfl
   rcases num_split (q := q) hg with ⟨A, D, e, hA, h0, hD, hdot⟩ | ⟨A, B, D, e, hA, h0, hB, h1, hD⟩
   ·have e2 : x :: (q ++ 10 :: b) = A ++ (D ++ 10 :: b) := by rw [← List.append_assoc, ← e]; rfl
    rw [e, e2, num_one hA h0 hD hdot, num_one hA h0 (hdD D hD) ?_, luD]
    intro d q1 h
    cases D with
    | nil => exact dot_sep hs d q1 h
    | cons d1 D =>
     cases D with
     | nil =>
      injection h with h1 h2
      injection h2 with h2 h3
      rw [← h2]; rfl
     | cons d2 D =>
      injection h with h1 h2
      injection h2 with h2 h3
      rw [← h2]
      exact hdot d2 D (by rw [h1])
   ·have e2 : x :: (q ++ 10 :: b) = A ++ 46 :: (B ++ (D ++ 10 :: b)) := by
     have : x :: (q ++ 10 :: b) = (x :: q) ++ 10 :: b := rfl
     rw [this, e]; simp
    rw [e, e2, num_two hA h0 hB h1 hD, num_two hA h0 hB h1 (hdD D hD), luD]
  ·rw [if_neg hg, if_neg hg]
   by_cases hb : x = 34
   ·rw [if_pos hb, if_pos hb]
    unfold textT
    simp only [List.drop_succ_cons, List.drop_zero]
    cases hz : textG q with
    | none => rw [textG_none q b hz]
    | some z => rw [textG_some hz]
   ·rw [if_neg hb, if_neg hb]
    have := sign_sep (w := x :: q) hs
    exact this
end Go.Proofs.YtbcdabflmkgkiaaGreatDoor

namespace Go.Proofs.YtbcdabflmkgkiaaGreatDoor
open Go Go.Sk
set_option linter.unusedVariables false
set_option linter.unusedSimpArgs false
def wt (t : Token) : Str := wrt t.Kind t.S
def sz (l : List Token) : Nat := (l.map fun t => (wt t).length + 1).sum
end Go.Proofs.YtbcdabflmkgkiaaGreatDoor

namespace Go.Proofs.YtbcdabflmkgkiaaGreatDoor
open Go.Sk
theorem sanity_ok : skewbacklaw28_sanity_S 2000000 = some true := by decide +kernel
end Go.Proofs.YtbcdabflmkgkiaaGreatDoor

namespace Go.Proofs.YtbcdabflmkgkiaaGreatDoor
open Go Go.Sk
set_option linter.unusedVariables false
set_option linter.unusedSimpArgs false
theorem lx_prob {k : Nat} {r : Str} {p : Problem} (h : Lx k r (.inr p)) : p.E = 2 ∨ p.E = 280 ∨ p.E = 281 := by
 generalize hres : (Sum.inr p : List Token ⊕ Problem) = res at h
 induction h with
 | done => cases hres
 | bad _ _ ht => cases hres; exact tok_bad ht
 | err _ _ _ _ ih => cases hres; exact ih rfl
 | one => cases hres
end Go.Proofs.YtbcdabflmkgkiaaGreatDoor

namespace Go.Proofs.YtbcdabflmkgkiaaGreatDoor
open Go Go.Sk
set_option linter.unusedVariables false
set_option linter.unusedSimpArgs false
theorem sk_nl_nil : ∀ (r : Str) (c : Bool) (b : Str), sk c r = [] → sk c (r ++ 10 :: b) = sk false b
 | [], c, b, _ => by cases c <;> rfl
 | x :: r, false, b, h => by
  rw [sk] at h
  rw [List.cons_append, sk]
  by_cases hx : isS x = true
  ·rw [if_pos hx] at h ⊢; exact sk_nl_nil r false b h
  ·rw [if_neg hx] at h ⊢
   by_cases h35 : x = 35
   ·rw [if_pos h35] at h ⊢; exact sk_nl_nil r true b h
   ·rw [if_neg h35] at h; cases h
 | x :: r, true, b, h => by
  rw [sk] at h
  rw [List.cons_append, sk]
  by_cases hx : x = 10
  ·rw [if_pos hx] at h ⊢; exact sk_nl_nil r false b h
  ·rw [if_neg hx] at h ⊢; exact sk_nl_nil r true b h
theorem sk_app : ∀ (r : Str) (c : Bool) (b : Str) {x : UInt8} {q : Str}, sk c r = x :: q → sk c (r ++ b) = x :: (q ++ b)
 | [], c, b, x, q, h => by cases c <;> cases h
 | y :: r, false, b, x, q, h => by
  rw [sk] at h
  rw [List.cons_append, sk]
  by_cases hx : isS y = true
  ·rw [if_pos hx] at h ⊢; exact sk_app r false b h
  ·rw [if_neg hx] at h ⊢
   by_cases h35 : y = 35
   ·rw [if_pos h35] at h ⊢; exact sk_app r true b h
   ·rw [if_neg h35] at h ⊢
    injection h with h1 h2
    rw [h1, h2]
 | y :: r, true, b, x, q, h => by
  rw [sk] at h
  rw [List.cons_append, sk]
  by_cases hx : y = 10
  ·rw [if_pos hx] at h ⊢; exact sk_app r false b h
  ·rw [if_neg hx] at h ⊢; exact sk_app r true b h
theorem lx_congr {k k2 : Nat} {r r2 : Str} {res : List Token ⊕ Problem} (hs : sk false r2 = sk false r) (hk : k2 + r2.length = k + r.length) (h : Lx k r res) : Lx k2 r2 res := by
 cases h with
 | done h => exact .done (by rw [hs, h])
 | bad h hj ht => exact .bad (by rw [hs, h]) (by omega) ht
 | err h hj ht hl => exact .err (by rw [hs, h]) (by omega) ht hl
 | one h hj ht hl => exact .one (by rw [hs, h]) (by omega) ht hl
def comb : List Token ⊕ Problem → List Token ⊕ Problem → List Token ⊕ Problem
 | .inr p, _ => .inr p
 | .inl l, .inl m => .inl (l ++ m)
 | .inl _, .inr p => .inr p
theorem lx_nl {k : Nat} {r : Str} {res : List Token ⊕ Problem} (h : Lx k r res) : ∀ {b : Str} {resB : List Token ⊕ Problem}, Lx (k + r.length + 1) b resB → Lx k (r ++ 10 :: b) (comb res resB) := by
 induction h with
 | @done k r h =>
  intro b resB hb
  have e : comb (.inl []) resB = resB := by cases resB <;> rfl
  rw [e]
  exact lx_congr (sk_nl_nil r false b h) (by simp; omega) hb
 | @bad k j r q x e h hj ht =>
  intro b resB hb
  exact .bad (j := j) (q := q ++ 10 :: b) (sk_app r false (10 :: b) h) (by simp; omega) (by rw [← List.cons_append, tok_nl]; exact ht)
 | @err k j r q x kd t m p h hj ht hl ih =>
  intro b resB hb
  have hm := tok_pos ht
  refine .err (j := j) (q := q ++ 10 :: b) (sk_app r false (10 :: b) h) (by simp; omega) (by rw [← List.cons_append, tok_nl]; exact ht) ?_
  rw [← List.cons_append, List.drop_append_of_le_length (by simp; omega)]
  refine ih (b := b) (resB := resB) ?_
  rw [List.length_drop, List.length_cons, show j + m + (q.length + 1 - m) + 1 = k + r.length + 1 by omega]
  exact hb
 | @one k j r q x kd t m l h hj ht hl ih =>
  intro b resB hb
  have hm := tok_pos ht
  have hd : Lx (j + m) ((x :: (q ++ 10 :: b)).drop m) (comb (.inl l) resB) := by
   rw [← List.cons_append, List.drop_append_of_le_length (by simp; omega)]
   refine ih (b := b) (resB := resB) ?_
   rw [List.length_drop, List.length_cons, show j + m + (q.length + 1 - m) + 1 = k + r.length + 1 by omega]
   exact hb
  have ht2 : tok (x :: (q ++ 10 :: b)) = .got kd t m := by rw [← List.cons_append, tok_nl]; exact ht
  have hj2 : k + (r ++ 10 :: b).length = j + ((q ++ 10 :: b).length + 1) := by simp; omega
  cases resB with
  | inl m2 => exact .one (sk_app r false (10 :: b) h) hj2 ht2 hd
  | inr p => exact .err (sk_app r false (10 :: b) h) hj2 ht2 hd
def up (d : Nat) (x : Token) : Token := ⟨x.Kind, x.At + (d : Int), x.S⟩
def upR (d : Nat) : List Token ⊕ Problem → List Token ⊕ Problem
 | .inl l => .inl (l.map (up d))
 | .inr p => .inr ⟨p.At + (d : Int), p.E⟩
theorem lx_up {k : Nat} {r : Str} {res : List Token ⊕ Problem} (d : Nat) (h : Lx k r res) : Lx (k + d) r (upR d res) := by
 induction h with
 | done h => exact .done h
 | @bad k j r q x e h hj ht =>
  have := Lx.bad (k := k + d) (j := j + d) h (by omega) ht
  rw [show ((j + d : Nat) : Int) = (j : Int) + (d : Int) by omega] at this
  exact this
 | @err k j r q x kd t m p h hj ht hl ih =>
  have ih2 : Lx (j + d + m) ((x :: q).drop m) (upR d (.inr p)) := by rw [show j + d + m = j + m + d by omega]; exact ih
  exact .err (j := j + d) h (by omega) ht ih2
 | @one k j r q x kd t m l h hj ht hl ih =>
  have ih2 : Lx (j + d + m) ((x :: q).drop m) (upR d (.inl l)) := by rw [show j + d + m = j + m + d by omega]; exact ih
  have := Lx.one (k := k + d) (j := j + d) h (by omega) ht ih2
  rw [show ((j + d : Nat) : Int) = (j : Int) + (d : Int) by omega] at this
  exact this
def within (n : Nat) : List Token ⊕ Problem → Prop
 | .inl l => ∀ x ∈ l, 0 ≤ x.At ∧ x.At ≤ (n : Int)
 | .inr p => 0 ≤ p.At ∧ p.At ≤ (n : Int)
theorem lx_within {k : Nat} {r : Str} {res : List Token ⊕ Problem} (h : Lx k r res) : within (k + r.length) res := by
 induction h with
 | done h => intro x hx; cases hx
 | @bad k j r q x e h hj ht => exact ⟨by simp only; omega, by simp only; omega⟩
 | @err k j r q x kd t m p h hj ht hl ih =>
  have hm := tok_pos ht
  rw [List.length_drop, List.length_cons, show j + m + (q.length + 1 - m) = k + r.length by omega] at ih
  exact ih
 | @one k j r q x kd t m l h hj ht hl ih =>
  have hm := tok_pos ht
  rw [List.length_drop, List.length_cons, show j + m + (q.length + 1 - m) = k + r.length by omega] at ih
  intro y hy
  rcases List.mem_cons.1 hy with rfl | hy
  ·exact ⟨by simp only; omega, by simp only; omega⟩
  ·exact ih y hy
theorem lx_count {k : Nat} {r : Str} {res : List Token ⊕ Problem} (h : Lx k r res) : ∀ l, res = .inl l → l.length ≤ r.length := by
 induction h with
 | done => intro l e; cases e; simp
 | bad => intro l e; cases e
 | err => intro l e; cases e
 | @one k j r q b kd t m l2 h1 hj ht hl ih =>
  intro l e
  cases e
  have h5 := ih l2 rfl
  have h6 := tok_pos ht
  have h7 := sk_len r false
  rw [h1] at h7
  simp only [List.length_drop, List.length_cons] at *
  omega
theorem equal_self {F : Nat} {l : List Token} (hF : l.length < F) (hl : l.length ≤ 100000000) : skewbacklaw28_equal_S F l l = some true := by
 unfold skewbacklaw28_equal_S
 rw [if_neg (by simp)]
 refine Yld.eq (Yld.bind (Yld.ea1 (l := l) (Q := fun o : Unit ⊕ Bool => o = .inl ()) (fun pre => True) hF (by omega) trivial (fun pre x post e hx hI => ?_) (fun _ => rfl)) (fun o ho => ?_))
 ·rw [hx]
  simp only [Option.bind_some]
  rw [if_neg (by simp)]
  exact Yld.some (.inl ⟨rfl, trivial⟩)
 ·subst ho; exact Yld.some rfl
theorem local_law (a b : Str) : skewbacklaw28_LexerIsLocal_S 2000000 a b = some true := by
 unfold skewbacklaw28_LexerIsLocal_S letN
 have hsan := sanity_ok
 by_cases h3 : 3000 < a.length ∨ 3000 < b.length
 ·rw [show (decide ((3000 : Int) < (a.length : Int)) || decide ((3000 : Int) < (b.length : Int))) = true by simp; omega]
  simp only [if_true]
  rw [hsan]; rfl
 ·rw [show (decide ((3000 : Int) < (a.length : Int)) || decide ((3000 : Int) < (b.length : Int))) = false by simp; omega]
  simp only [Bool.false_eq_true, if_false]
  obtain ⟨ra, ha⟩ := Lx.total _ 0 a (Nat.le_refl _)
  obtain ⟨rb, hb⟩ := Lx.total _ 0 b (Nat.le_refl _)
  have hb2 := lx_up (a.length + 1) hb
  have hab := lx_nl ha (b := b) (resB := upR (a.length + 1) rb) (by rw [show 0 + a.length + 1 = 0 + (a.length + 1) by omega]; exact hb2)
  rw [tokensR_ok (by omega) (by omega) ha, Option.bind_some]
  simp only [un2]
  rw [tokensR_ok (by omega) (by omega) hb, Option.bind_some]
  simp only [un2]
  rw [app?_eq (by simp; omega), Option.bind_some]
  rw [app?_eq (by simp; omega), Option.bind_some]
  rw [show (a ++ [10]) ++ b = a ++ 10 :: b by simp]
  rw [tokensR_ok (by simp; omega) (by simp; omega) hab, Option.bind_some]
  simp only [un2]
  cases ra with
  | inr p =>
   have hp := lx_prob ha
   rw [show outP (.inr p) = ([], p) from rfl, show comb (.inr p) (upR (a.length + 1) rb) = .inr p from rfl, show outP (.inr p) = ([], p) from rfl]
   rw [if_pos (decide_eq_true (by rintro rfl; simp at hp)), hsan]
   simp
  | inl l =>
   have hwa := lx_within ha
   have hla := lx_count ha l rfl
   rw [show outP (.inl l) = (l, ⟨0, 0⟩) from rfl]
   cases rb with
   | inr p =>
    have hp := lx_prob hb
    have hwb := lx_within hb
    have hwb2 : 0 ≤ p.At ∧ p.At ≤ ((0 + b.length : Nat) : Int) := hwb
    rw [show outP (.inr p) = ([], p) from rfl, show comb (.inl l) (upR (a.length + 1) (.inr p)) = .inr ⟨p.At + ((a.length + 1 : Nat) : Int), p.E⟩ from rfl, show ∀ p2 : Problem, outP (.inr p2) = ([], p2) from fun _ => rfl]
    rw [if_neg (by simp), if_pos (decide_eq_true (by rintro rfl; simp at hp)), hsan]
    rw [wr (z := p.At + (a.length : Int)) (by omega) (by omega), wr (by omega) (by omega)]
    rw [show p.At + (a.length : Int) + 1 = p.At + ((a.length + 1 : Nat) : Int) by omega]
    simp
   | inl m =>
    have hwb := lx_within hb
    have hlb := lx_count hb m rfl
    rw [show outP (.inl m) = (m, ⟨0, 0⟩) from rfl, show comb (.inl l) (upR (a.length + 1) (.inl m)) = .inl (l ++ m.map (up (a.length + 1))) from rfl, show ∀ l2 : List Token, outP (.inl l2) = (l2, ⟨0, 0⟩) from fun _ => rfl]
    rw [if_neg (by simp), if_neg (by simp)]
    refine Yld.eq (Yld.bind (Yld.ea2 (l := m) (Q := fun o : List Token => o = l ++ m.map (up (a.length + 1))) (fun pre out => out = l ++ pre.map (up (a.length + 1))) (by omega) (by omega) (by simp) (fun pre x post out e hx hI => ?_) (fun out hI => hI)) (fun o ho => ?_))
    ·subst hI
     have hm : x ∈ m := by rw [e]; simp
     have hxw : 0 ≤ x.At ∧ x.At ≤ ((0 + b.length : Nat) : Int) := hwb x hm
     have hpl : pre.length ≤ m.length := by rw [e]; simp
     rw [hx, Option.bind_some]
     rw [wr (z := (a.length : Int) + 1) (by omega) (by omega), wr (by omega) (by omega), app?_eq (by simp; omega), Option.bind_some]
     refine Yld.some (.inl ⟨_, rfl, ?_⟩)
     rw [List.map_append, ← List.append_assoc]
     congr 1
    ·subst ho
     rw [hsan, Option.bind_some, equal_self (by simp; omega) (by simp; omega)]
     simp only [decide_true, Bool.and_self, gcall, if_true, Option.bind_some]
     exact Yld.some rfl
end Go.Proofs.YtbcdabflmkgkiaaGreatDoor

namespace Go.Proofs.YtbcdabflmkgkiaaGreatDoor
open Go Go.Sk
theorem local_ctr {mx : Int} (x0 : Str) (x1 : Str) : Meets Tryz.prog (tabs mx) 5 [] [.one (.str x0), .one (.str x1)] (Is [] (.b (.one (.bool true)))) :=
 skewbacklaw28_LexerIsLocal_spec (local_law x0 x1)
end Go.Proofs.YtbcdabflmkgkiaaGreatDoor

