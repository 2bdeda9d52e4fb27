/- What a call's own text tells the reference's Parse, step by step, plainly. · The fields that the reference's Parse reads of a canonical text's numbers, plainly. (printed by a program) · Numbers as digits tell them, plainly (out of chapter 05's text). -/
import Derived.Test.YtgphigpbgiceiaaDoorPartP
import Derived.Test.YtgphigpbgiceiaaDoorCodeJ
import Derived.IntWalk
namespace Go.Proofs.YtgphigpbgiceiaaDoor
set_option linter.unusedVariables false
set_option linter.unusedSimpArgs false

/-- d's own text is s. -/
def CanonS (s : List UInt8) (d : Cl) : Prop := d.Ok ∧ textB d = true ∧ clText d ((usesF d.kind).getD []) = s
theorem canon_parts {s : List UInt8} {d : Cl} (h : CanonS s d) : partsF s = some (wordK d.kind, pieces d ((usesF d.kind).getD [])) := by
  rw [← h.2.2]
  exact partsF_text d h.1 h.2.1
theorem canon_none {s : List UInt8} (h : partsF s = none) (d : Cl) : ¬ CanonS s d := fun hd => by
  rw [canon_parts hd] at h
  cases h
theorem canon_split {s x : List UInt8} {ps : List (List UInt8)} (h : partsF s = some (x, ps)) {d : Cl} (hd : CanonS s d) : x = wordK d.kind ∧ ps = pieces d ((usesF d.kind).getD []) := by
  rw [canon_parts hd] at h
  have e := Option.some.inj h
  exact ⟨(congrArg Prod.fst e).symm, (congrArg Prod.snd e).symm⟩
theorem canon_kind {s : List UInt8} {d : Cl} (hd : CanonS s d) : 1 ≤ d.kind ∧ d.kind ≤ 22 ∧ callOf ⟨(wordK d.kind).toArray⟩ = d.kind := by
  obtain ⟨hs, ht, ho, h8⟩ := textB_parts hd.2.1
  obtain ⟨hn0, hk1, hk22⟩ := uses_some hs
  exact ⟨hk1, hk22, (word_call d.kind hk1 hk22).1⟩
/-- Pieces of a kind that reduces: the numbers and then the reduction's word. -/
theorem pieces_red (d : Cl) (ul : List Int) (h : ul.contains 9 = true) : (pieces d ul).getLast? = some (redK d.op) ∧ (pieces d ul).dropLast = (clNums d ul).map Lib.itoa ∧ (pieces d ul).length = (clNums d ul).length + 1 := by
  unfold pieces
  rw [if_pos h]
  exact ⟨by simp, by simp, by simp⟩
theorem pieces_plain (d : Cl) (ul : List Int) (h : ul.contains 9 = false) : pieces d ul = (clNums d ul).map Lib.itoa := by
  unfold pieces
  rw [if_neg (by rw [h]; simp), List.append_nil]
end Go.Proofs.YtgphigpbgiceiaaDoor
namespace Go.Proofs.YtgphigpbgiceiaaDoor
set_option linter.unusedVariables false
set_option linter.unusedSimpArgs false

/-- What the reference's Parse makes of a kind, a reduction and the numbers. -/
def refCl (k op : Int) (l : List Int) : Cl :=
  if k = 1 ∨ k = 2 ∨ k = 3 ∨ k = 4 ∨ k = 5 then ⟨k, l.getD 0 0, l.getD 1 0, l.getD 2 0, l.getD 3 0, l.getD 4 0, 0, 0, [], 0, 0⟩
  else if k = 6 ∨ k = 7 ∨ k = 13 ∨ k = 14 then ⟨k, l.getD 0 0, l.getD 1 0, l.getD 2 0, 0, 0, 0, 0, [], 0, 0⟩
  else if k = 8 ∨ k = 9 ∨ k = 10 ∨ k = 11 ∨ k = 12 then ⟨k, 0, 0, 0, 0, 0, 0, 0, l, 0, 0⟩
  else if k = 15 ∨ k = 20 ∨ k = 22 then ⟨k, l.getD 0 0, 0, 0, 0, 0, 0, 0, [], 0, 0⟩
  else if k = 16 ∨ k = 19 then ⟨k, l.getD 0 0, 0, 0, l.getD 2 0, 0, l.getD 1 0, 0, [], 0, 0⟩
  else if k = 17 then ⟨k, l.getD 0 0, 0, 0, l.getD 2 0, 0, l.getD 1 0, op, [], 0, 0⟩
  else if k = 18 then ⟨k, l.getD 0 0, 0, 0, l.getD 1 0, 0, 0, op, [], 0, 0⟩
  else if k = 21 then ⟨k, l.getD 0 0, 0, 0, 0, 0, 0, 0, [], l.getD 1 0, l.getD 2 0⟩
  else kindCl k
theorem canon_fields {s : List UInt8} {d : Cl} (hd : CanonS s d) : d = refCl d.kind d.op (clNums d ((usesF d.kind).getD [])) := by
  obtain ⟨hs, ht, ho, h8⟩ := textB_parts hd.2.1
  obtain ⟨hk1, hk22, _⟩ := canon_kind hd
  have hop := hd.1.op
  have hm : d.op % 256 = d.op := by have := hop.1; omega
  have go : ∀ l, usesF d.kind = some l → d = l.foldl (stepF d) (initF d) := fun l hl => by
    have e : trimF d = l.foldl (stepF d) (initF d) := by unfold trimF; rw [hl]
    rw [← e]
    exact ht
  by_cases k1 : d.kind = 1 ∨ d.kind = 2 ∨ d.kind = 3 ∨ d.kind = 4 ∨ d.kind = 5
  · have hu : usesF d.kind = some [0, 1, 2, 3, 4] := by unfold usesF; rw [if_pos k1]
    have e := go _ hu
    rw [hu, Option.getD_some]
    unfold refCl
    rw [if_pos k1]
    refine e.trans ?_
    simp [stepF, setF, getF, initF, clNums, hm]
  by_cases k2 : d.kind = 6 ∨ d.kind = 7 ∨ d.kind = 13 ∨ d.kind = 14
  · have hu : usesF d.kind = some [0, 1, 2] := by unfold usesF; rw [if_neg k1, if_pos k2]
    have e := go _ hu
    rw [hu, Option.getD_some]
    unfold refCl
    rw [if_neg k1, if_pos k2]
    refine e.trans ?_
    simp [stepF, setF, getF, initF, clNums, hm]
  by_cases k3 : d.kind = 8 ∨ d.kind = 9 ∨ d.kind = 10 ∨ d.kind = 11 ∨ d.kind = 12
  · have hu : usesF d.kind = some [8] := by unfold usesF; rw [if_neg k1, if_neg k2, if_pos k3]
    have e := go _ hu
    rw [hu, Option.getD_some]
    unfold refCl
    rw [if_neg k1, if_neg k2, if_pos k3]
    refine e.trans ?_
    simp [stepF, setF, getF, initF, clNums, hm]
  by_cases k4 : d.kind = 15 ∨ d.kind = 20 ∨ d.kind = 22
  · have hu : usesF d.kind = some [0] := by unfold usesF; rw [if_neg k1, if_neg k2, if_neg k3, if_pos k4]
    have e := go _ hu
    rw [hu, Option.getD_some]
    unfold refCl
    rw [if_neg k1, if_neg k2, if_neg k3, if_pos k4]
    refine e.trans ?_
    simp [stepF, setF, getF, initF, clNums, hm]
  by_cases k5 : d.kind = 16 ∨ d.kind = 19
  · have hu : usesF d.kind = some [0, 5, 3] := by unfold usesF; rw [if_neg k1, if_neg k2, if_neg k3, if_neg k4, if_pos k5]
    have e := go _ hu
    rw [hu, Option.getD_some]
    unfold refCl
    rw [if_neg k1, if_neg k2, if_neg k3, if_neg k4, if_pos k5]
    refine e.trans ?_
    simp [stepF, setF, getF, initF, clNums, hm]
  by_cases k6 : d.kind = 17
  · have hu : usesF d.kind = some [0, 5, 3, 9] := by unfold usesF; rw [if_neg k1, if_neg k2, if_neg k3, if_neg k4, if_neg k5, if_pos k6]
    have e := go _ hu
    rw [hu, Option.getD_some]
    unfold refCl
    rw [if_neg k1, if_neg k2, if_neg k3, if_neg k4, if_neg k5, if_pos k6]
    refine e.trans ?_
    simp [stepF, setF, getF, initF, clNums, hm]
  by_cases k7 : d.kind = 18
  · have hu : usesF d.kind = some [0, 3, 9] := by unfold usesF; rw [if_neg k1, if_neg k2, if_neg k3, if_neg k4, if_neg k5, if_neg k6, if_pos k7]
    have e := go _ hu
    rw [hu, Option.getD_some]
    unfold refCl
    rw [if_neg k1, if_neg k2, if_neg k3, if_neg k4, if_neg k5, if_neg k6, if_pos k7]
    refine e.trans ?_
    simp [stepF, setF, getF, initF, clNums, hm]
  by_cases k8 : d.kind = 21
  · have hu : usesF d.kind = some [0, 6, 7] := by unfold usesF; rw [if_neg k1, if_neg k2, if_neg k3, if_neg k4, if_neg k5, if_neg k6, if_neg k7, if_pos k8]
    have e := go _ hu
    rw [hu, Option.getD_some]
    unfold refCl
    rw [if_neg k1, if_neg k2, if_neg k3, if_neg k4, if_neg k5, if_neg k6, if_neg k7, if_pos k8]
    refine e.trans ?_
    simp [stepF, setF, getF, initF, clNums, hm]
  exfalso
  omega
end Go.Proofs.YtgphigpbgiceiaaDoor
namespace Go.Proofs.YtgphigpbgiceiaaDoor
open Go.RowKit Go.Sort
set_option linter.unusedVariables false
set_option linter.unusedSimpArgs false

def numF (l : List UInt8) : Int := l.foldl (fun n b => IntKind.i64.wrap (IntKind.i64.wrap (10 * n) - ((b.toNat : Int) - 48))) 0
theorem numF_app (l : List UInt8) (b : UInt8) : numF (l ++ [b]) = IntKind.i64.wrap (IntKind.i64.wrap (10 * numF l) - ((b.toNat : Int) - 48)) := by
  unfold numF
  rw [List.foldl_append]
  rfl
theorem wrap_id {n : Int} (h0 : -9223372036854775808 ≤ n) (h1 : n ≤ 9223372036854775807) : IntKind.i64.wrap n = n := by
  exact IntWalk.i64_in n ⟨h0, h1⟩
theorem numF_dec : ∀ (n u : Nat), u ≤ n → u ≤ 9223372036854775808 → numF (Lib.decDigits u) = -(u : Int)
  | n, u, hn, hu => by
    have hd : (UInt8.ofNat (48 + u % 10)).toNat = 48 + u % 10 := by simp only [UInt8.toNat_ofNat']; omega
    by_cases h : u < 10
    · rw [Lib.decDigits, dif_pos h]
      have hd' : (UInt8.ofNat (48 + u)).toNat = 48 + u := by simp only [UInt8.toNat_ofNat']; omega
      have e := numF_app [] (UInt8.ofNat (48 + u))
      rw [List.nil_append] at e
      rw [e, hd', show numF [] = 0 from rfl, show IntKind.i64.wrap (10 * 0) = 0 from wrap_id (by omega) (by omega), wrap_id (by omega) (by omega)]
      omega
    · rw [Lib.decDigits, dif_neg h]
      cases n with
      | zero => omega
      | succ n =>
        have e1 : IntKind.i64.wrap (10 * -((u / 10 : Nat) : Int)) = 10 * -((u / 10 : Nat) : Int) := wrap_id (by omega) (by omega)
        rw [numF_app, hd, numF_dec n (u / 10) (by omega) (by omega), e1, wrap_id (by omega) (by omega)]
        omega
theorem dec_len : ∀ (k u : Nat), 1 ≤ k → u < 10 ^ k → (Lib.decDigits u).length ≤ k
  | 0, u, hk, _ => by omega
  | k + 1, u, _, hu => by
    by_cases h : u < 10
    · rw [Lib.decDigits, dif_pos h]
      simp
    · rw [Lib.decDigits, dif_neg h, List.length_append, List.length_singleton]
      have hk : 1 ≤ k := by
        rcases Nat.eq_zero_or_pos k with rfl | hk
        · simp at hu
          omega
        · exact hk
      have := dec_len k (u / 10) hk (by rw [Nat.pow_succ] at hu; omega)
      omega
/-- A text is a number's own. -/
def NumIs (l : List UInt8) (n : Int) : Prop := (-9223372036854775808 ≤ n ∧ n ≤ 9223372036854775807) ∧ Lib.itoa n = l
def digitsOf (l : List UInt8) : List UInt8 := if l.head? = some 45 then l.drop 1 else l
theorem dec_head (u : Nat) : ∃ b r, Lib.decDigits u = b :: r ∧ 48 ≤ b.toNat ∧ b.toNat ≤ 57 := by
  cases hl : Lib.decDigits u with
  | nil => exact absurd hl (dec_ne u)
  | cons b r => exact ⟨b, r, rfl, dec_digits u u (Nat.le_refl _) b (by rw [hl]; simp)⟩
/-- What a number's own text is: its digits, the number below 0. -/
theorem numIs_parts {l : List UInt8} {n : Int} (h : NumIs l n) : (digitsOf l).length ≤ 19 ∧ 1 ≤ (digitsOf l).length ∧ (∀ b ∈ digitsOf l, 48 ≤ b.toNat ∧ b.toNat ≤ 57) ∧ (if (digitsOf l).length = l.length then IntKind.i64.wrap (-(numF (digitsOf l))) else numF (digitsOf l)) = n := by
  obtain ⟨⟨h0, h1⟩, rfl⟩ := h
  have hp : (9223372036854775808 : Nat) < 10 ^ 19 := by decide
  rcases Int.lt_or_le n 0 with h | h
  · obtain ⟨u, rfl⟩ : ∃ u : Nat, n = -(u : Int) := ⟨n.natAbs, by omega⟩
    have e : digitsOf (Lib.itoa (-(u : Int))) = Lib.decDigits u := by
      rw [Lib.itoa_neg u (by omega)]
      rfl
    have hl := dec_len 19 u (by omega) (by omega)
    obtain ⟨b, r, hb, _⟩ := dec_head u
    rw [e, Lib.itoa_neg u (by omega), numF_dec u u (Nat.le_refl _) (by omega)]
    refine ⟨hl, by rw [hb]; simp, dec_digits u u (Nat.le_refl _), ?_⟩
    rw [if_neg (by simp)]
  · obtain ⟨u, rfl⟩ : ∃ u : Nat, n = u := ⟨n.toNat, by omega⟩
    have hl := dec_len 19 u (by omega) (by omega)
    obtain ⟨b, r, hb, hb1, hb2⟩ := dec_head u
    have e : digitsOf (Lib.itoa (u : Int)) = Lib.decDigits u := by
      rw [Lib.itoa_nonneg, hb]
      unfold digitsOf
      rw [List.head?_cons, if_neg]
      intro h
      injection h with h
      subst h
      simp at hb1
    rw [e, Lib.itoa_nonneg, numF_dec u u (Nat.le_refl _) (by omega)]
    refine ⟨hl, by rw [hb]; simp, dec_digits u u (Nat.le_refl _), ?_⟩
    rw [if_pos rfl, wrap_id (by omega) (by omega)]
    omega
theorem numF_range : ∀ (l : List UInt8), -9223372036854775808 ≤ numF l ∧ numF l ≤ 9223372036854775807 := by
  intro l
  rcases List.eq_nil_or_concat l with rfl | ⟨r, b, rfl⟩
  · exact ⟨by decide, by decide⟩
  · rw [List.concat_eq_append, numF_app]
    rw [IntKind.wrap_i64]
    omega
/-! A text's parts put together again. -/
end Go.Proofs.YtgphigpbgiceiaaDoor
