/- Plain words on numerals: what a row of digits is worth, when its worth is written with just these digits. -/
import Derived.Lib.ParseIntB
import Derived.Lib.ItoaNum
import Derived.Test.YtjfoinikdifgmaaDoorScanP
namespace Go.Proofs.YtjfoinikdifgmaaDoor

def valFrom (a : Nat) (l : List UInt8) : Nat := l.foldl (fun a c => a * 10 + (c.toNat - 48)) a
theorem valFrom_nil (a : Nat) : valFrom a [] = a := by simp [valFrom]
theorem valFrom_cons (a : Nat) (c : UInt8) (r : List UInt8) : valFrom a (c :: r) = valFrom (a * 10 + (c.toNat - 48)) r := by simp [valFrom]
def valOf (l : List UInt8) : Nat := valFrom 0 l
def allDigits (l : List UInt8) : Prop := ∀ c ∈ l, 48 ≤ c.toNat ∧ c.toNat ≤ 57
/-- A numeral: at most 18 digits, none of them a 0 ahead. -/
def numOk (l : List UInt8) : Bool := decide (l.length ≤ 18) && (decide (l.length = 1) || !(l.head?.any fun c => c.toNat == 48))

theorem valFrom_ge : ∀ (l : List UInt8) (a : Nat), a ≤ valFrom a l
  | [], a => Nat.le_refl _
  | c :: r, a => by
    have := valFrom_ge r (a * 10 + (c.toNat - 48))
    rw [valFrom_cons]
    omega
theorem valFrom_append (l m : List UInt8) (a : Nat) : valFrom a (l ++ m) = valFrom (valFrom a l) m := by simp [valFrom, List.foldl_append]
theorem valOf_snoc (l : List UInt8) (c : UInt8) : valOf (l ++ [c]) = valOf l * 10 + (c.toNat - 48) := by
  unfold valOf
  rw [valFrom_append, valFrom_cons, valFrom_nil]
theorem valFrom_lt (l : List UInt8) (h : allDigits l) : ∀ a, valFrom a l < (a + 1) * 10 ^ l.length := by
  induction l with
  | nil => intro a; simp [valFrom_nil]
  | cons c r ih =>
    intro a
    have hc := h c (by simp)
    have := ih (fun x hx => h x (by simp [hx])) (a * 10 + (c.toNat - 48))
    rw [valFrom_cons]
    refine Nat.lt_of_lt_of_le this ?_
    rw [List.length_cons, Nat.pow_succ, Nat.mul_comm (10 ^ r.length) 10, ← Nat.mul_assoc]
    exact Nat.mul_le_mul_right _ (by omega)
theorem valOf_lt {l : List UInt8} (h : allDigits l) : valOf l < 10 ^ l.length := by
  have := valFrom_lt l h 0
  simpa [valOf] using this
theorem valOf_lt18 {l : List UInt8} (h : allDigits l) (hl : l.length ≤ 18) : valOf l < 1000000000000000000 := by
  have h1 := valOf_lt h
  have h2 : 10 ^ l.length ≤ 10 ^ 18 := Nat.pow_le_pow_right (by omega) hl
  omega

theorem parseUintM_digits (l : List UInt8) (h : allDigits l) : ∀ a, a ≤ 18446744073709551615 → Lib.parseUintM 18446744073709551615 a l = if valFrom a l ≤ 18446744073709551615 then .ok (valFrom a l) else .range := by
  induction l with
  | nil => intro a ha; simp [Lib.parseUintM, valFrom_nil, ha]
  | cons c r ih =>
    intro a ha
    have hc := h c (by simp)
    have hge := valFrom_ge r (a * 10 + (c.toNat - 48))
    unfold Lib.parseUintM
    rw [valFrom_cons, if_pos hc]
    by_cases h1 : 1844674407370955162 ≤ a
    · rw [if_pos h1, if_neg (by omega)]
    · rw [if_neg h1]
      by_cases h2 : 18446744073709551615 < a * 10 + (c.toNat - 48)
      · rw [if_pos h2, if_neg (by omega)]
      · rw [if_neg h2]
        exact ih (fun x hx => h x (by simp [hx])) _ (by omega)
theorem parseInt_digits {l : List UInt8} (h : allDigits l) (hne : l ≠ []) : Lib.parseIntB 64 l = if valOf l < 9223372036854775808 then .ok (valOf l : Int) else .range := by
  cases l with
  | nil => exact absurd rfl hne
  | cons c r =>
    have hc := h c (by simp)
    have e1 : ¬ (c.toNat = 43 ∨ c.toNat = 45) := by omega
    have e2 : ¬ c.toNat = 45 := by omega
    have hm : (2 : Nat) ^ 64 - 1 = 18446744073709551615 := rfl
    have hp : (2 : Nat) ^ (64 - 1) = 9223372036854775808 := rfl
    have hu : Lib.parseUintM 18446744073709551615 0 (c :: r) = if valOf (c :: r) ≤ 18446744073709551615 then .ok (valOf (c :: r)) else .range := parseUintM_digits (c :: r) h 0 (by omega)
    unfold Lib.parseIntB Lib.parseUintB
    simp only [if_neg e1, hm, hp]
    rw [if_neg (by simp), hu]
    generalize valOf (c :: r) = V at *
    clear hu h hne hc e1 hm hp
    by_cases h1 : V ≤ 18446744073709551615
    · rw [if_pos h1]
      by_cases h2 : V < 9223372036854775808
      · simp only [if_pos h2]
        rw [if_neg (by omega), if_neg (by omega), if_neg e2]
      · simp only [if_neg h2]
        rw [if_pos ⟨e2, by omega⟩]
    · rw [if_neg h1, if_neg (by omega)]

theorem decDigits_val : ∀ (n : Nat) (l : List UInt8), l.length = n → allDigits l → l ≠ [] → (l.length = 1 ∨ l.head?.any (fun c => c.toNat == 48) = false) → Lib.decDigits (valOf l) = l
  | 0, l, hn, _, hne, _ => absurd (List.eq_nil_of_length_eq_zero hn) hne
  | 1, [c], _, h, _, _ => by
    have hc := h c (by simp)
    have e : valOf [c] = c.toNat - 48 := by simp [valOf, valFrom_cons, valFrom_nil]
    rw [e, Lib.decDigits_one (by omega)]
    have : 48 + (c.toNat - 48) = c.toNat := by omega
    rw [this]; simp
  | n + 2, l, hn, h, hne, hz => by
    obtain ⟨m, c, rfl⟩ : ∃ m c, l = m ++ [c] := ⟨l.dropLast, l.getLast hne, (List.dropLast_concat_getLast hne).symm⟩
    have hm : m.length = n + 1 := by simpa using hn
    have hc := h c (by simp)
    have hhead : m.head?.any (fun c => c.toNat == 48) = false := by
      cases m with
      | nil => simp at hm
      | cons a r =>
        rcases hz with hz | hz
        · simp at hz
        · simpa using hz
    have ih := decDigits_val (n + 1) m hm (fun x hx => h x (by simp [hx])) (by intro e; subst e; simp at hm) (.inr hhead)
    have hv : 0 < valOf m := by
      cases m with
      | nil => simp at hm
      | cons a r =>
        have ha := h a (by simp)
        have hnz : a.toNat ≠ 48 := by simpa using hhead
        have := valFrom_ge r (0 * 10 + (a.toNat - 48))
        unfold valOf
        rw [valFrom_cons]
        omega
    rw [valOf_snoc, Lib.decDigits, dif_neg (by omega)]
    have e1 : (valOf m * 10 + (c.toNat - 48)) / 10 = valOf m := by omega
    have e2 : (valOf m * 10 + (c.toNat - 48)) % 10 = c.toNat - 48 := by omega
    rw [e1, e2, ih]
    have : 48 + (c.toNat - 48) = c.toNat := by omega
    rw [this]; simp
theorem decDigits_head (u : Nat) : (Lib.decDigits u).head?.any (fun c => c.toNat == 48) = true → u = 0 := by
  induction u using Nat.strongRecOn with
  | ind u ih =>
    intro h
    by_cases hu : u < 10
    · rw [Lib.decDigits_one hu] at h
      simp at h
      have h2 : u % 256 = u := Nat.mod_eq_of_lt (by omega)
      omega
    · rw [Lib.decDigits, dif_neg hu] at h
      have hne : Lib.decDigits (u / 10) ≠ [] := by
        intro e
        have h1 := Lib.decDigits_length (u / 10)
        rw [e] at h1
        have h2 := Lib.nDigits_pos (u / 10)
        simp only [List.length_nil] at h1
        omega
      have hd : (Lib.decDigits (u / 10) ++ [UInt8.ofNat (48 + u % 10)]).head? = (Lib.decDigits (u / 10)).head? := by
        cases hh : Lib.decDigits (u / 10) with
        | nil => exact absurd hh hne
        | cons a r => rfl
      rw [hd] at h
      have := ih (u / 10) (by omega) h
      omega
/-- What a numeral's worth is written with is just it, or it isn't one. -/
theorem itoa_val {l : List UInt8} (h : allDigits l) (hne : l ≠ []) (hl : l.length ≤ 18) : (Lib.itoa (valOf l : Int) = l) ↔ numOk l = true := by
  have e : Lib.itoa (valOf l : Int) = Lib.decDigits (valOf l) := by
    unfold Lib.itoa
    rw [if_neg (by omega)]; rfl
  rw [e]
  unfold numOk
  simp only [hl, decide_true, Bool.true_and, Bool.or_eq_true, decide_eq_true_eq, Bool.not_eq_true']
  constructor
  · intro h1
    by_cases h0 : l.head?.any (fun c => c.toNat == 48) = true
    · left
      have := decDigits_head (valOf l) (by rw [h1]; exact h0)
      rw [this, Lib.decDigits_one (by omega)] at h1
      rw [← h1]; rfl
    · right
      simpa using h0
  · intro h1
    exact decDigits_val l.length l rfl h hne h1
end Go.Proofs.YtjfoinikdifgmaaDoor
