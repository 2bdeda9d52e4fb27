/- Plain laws of chapter 05's texts: what is read from a text that a program has is that program. -/
import Derived.Test.YtgphigpbgiceiaaGreatDoorCodeR
import Derived.Lib.SplitLaws
import Derived.Lib.AtoiAllCases
import Derived.Lib.ParseIntBTie
import Derived.Lib.IndexMore
import Derived.Lib.ItoaMem
import Derived.Lib.SlicesS
import Derived.Lib.ParseIntB
import Derived.Shelf.Strings.FieldsAny
namespace Go.Proofs.YtgphigpbgiceiaaGreatDoor
set_option linter.unusedVariables false
set_option linter.unusedSimpArgs false

/-- A text's parts, up to each byte c. -/
def splitC (c : UInt8) : List UInt8 → List (List UInt8)
  | [] => [[]]
  | x :: r => if x = c then [] :: splitC c r else match splitC c r with
    | [] => [[x]]
    | h :: t => (x :: h) :: t
theorem splitC_ne (c : UInt8) : ∀ l, splitC c l ≠ []
  | [] => by simp [splitC]
  | x :: r => by
    unfold splitC
    split
    · simp
    · split <;> simp
theorem splitC_no (c : UInt8) : ∀ {a : List UInt8}, c ∉ a → splitC c a = [a]
  | [], _ => rfl
  | x :: r, h => by
    unfold splitC
    rw [if_neg (fun e => h (by simp [e])), splitC_no c (a := r) (fun e => h (by simp [e]))]
theorem splitC_app (c : UInt8) (b : List UInt8) : ∀ {a : List UInt8}, c ∉ a → splitC c (a ++ c :: b) = a :: splitC c b
  | [], _ => by simp [splitC]
  | x :: r, h => by
    rw [List.cons_append, splitC, if_neg (fun e => h (by simp [e])), splitC_app c b (a := r) (fun e => h (by simp [e]))]
theorem indexByte_no (c : UInt8) : ∀ {a : List UInt8}, c ∉ a → Lib.indexByte a c = -1
  | [], _ => rfl
  | x :: r, h => by
    unfold Lib.indexByte
    rw [if_neg (by simpa using fun e => h (by simp [e])), indexByte_no c (a := r) (fun e => h (by simp [e]))]
    rfl
theorem indexByte_app (c : UInt8) (b : List UInt8) : ∀ {a : List UInt8}, c ∉ a → Lib.indexByte (a ++ c :: b) c = (a.length : Nat)
  | [], _ => by simp [Lib.indexByte]
  | x :: r, h => by
    rw [List.cons_append]
    unfold Lib.indexByte
    rw [if_neg (by simpa using fun e => h (by simp [e])), indexByte_app c b (a := r) (fun e => h (by simp [e])), if_neg (by simp)]
    simp
theorem splitK_is (c : UInt8) : ∀ (n : Nat) (l : List UInt8), l.length ≤ n → Lib.splitK [c] 0 (Lib.count l [c]) l = splitC c l
  | n, l, hn => by
    by_cases hc : c ∈ l
    · obtain ⟨a, b, rfl, ha⟩ := List.eq_append_cons_of_mem hc
      have hi : Lib.index (a ++ c :: b) [c] = (a.length : Nat) := by rw [Lib.index_one, indexByte_app c b ha]
      have hd : (a ++ c :: b).drop (a.length + 1) = b := by simp [List.drop_append]
      cases n with
      | zero => simp at hn
      | succ n =>
        rw [Lib.count_hit (by simp) hi, show [c].length = 1 from rfl, hd, Nat.add_comm, splitC_app c b ha]
        have hm : ¬ (Lib.index (a ++ c :: b) [c] == -1) = true := by rw [hi]; simp
        unfold Lib.splitK
        rw [if_neg hm, hi]
        simp only [Int.toNat_natCast, Nat.add_zero, List.length_singleton, hd]
        rw [splitK_is c n b (by simp at hn; omega)]
        simp
    · have hi : Lib.index l [c] = -1 := by rw [Lib.index_one, indexByte_no c hc]
      rw [Lib.count_miss hi, splitC_no c hc]
      rfl
theorem splitB_is (c : UInt8) (s : ByteArray) : (Lib.splitB ⟨#[c]⟩ 0 (Lib.countB s ⟨#[c]⟩) s).map (·.data.toList) = splitC c s.data.toList := by
  rw [Lib.splitB_data]
  exact splitK_is c _ _ (Nat.le_refl _)
theorem cut_no (c : UInt8) {a : List UInt8} (h : c ∉ a) : Lib.cut a [c] = (a, [], false) := by
  have hi : Lib.index a [c] = -1 := by rw [Lib.index_one, indexByte_no c h]
  unfold Lib.cut
  rw [hi, if_neg (by decide)]
theorem cut_app (c : UInt8) (b : List UInt8) {a : List UInt8} (h : c ∉ a) : Lib.cut (a ++ c :: b) [c] = (a, b, true) := by
  have hi : Lib.index (a ++ c :: b) [c] = (a.length : Nat) := by rw [Lib.index_one, indexByte_app c b h]
  unfold Lib.cut
  rw [hi, if_pos (by omega)]
  simp
/-! Digits. -/
theorem dec_digits : ∀ (n u : Nat), u ≤ n → ∀ b ∈ Lib.decDigits u, 48 ≤ b.toNat ∧ b.toNat ≤ 57
  | n, u, hn, b, hb => by
    by_cases h : u < 10
    · rw [Lib.decDigits, dif_pos h] at hb
      rw [List.mem_singleton.1 hb]
      simp only [UInt8.toNat_ofNat']
      omega
    · rw [Lib.decDigits, dif_neg h] at hb
      rcases List.mem_append.1 hb with h2 | h2
      · cases n with
        | zero => omega
        | succ n => exact dec_digits n (u / 10) (by omega) b h2
      · rw [List.mem_singleton.1 h2]
        simp only [UInt8.toNat_ofNat']
        omega
theorem parse_app : ∀ (l : List UInt8) (acc v : Nat) (r : List UInt8), Lib.parseUint10 acc l = .ok v → Lib.parseUint10 acc (l ++ r) = Lib.parseUint10 v r
  | [], acc, v, r, h => by
    simp only [Lib.parseUint10] at h
    injection h with h
    rw [h]
    rfl
  | c :: l, acc, v, r, h => by
    simp only [Lib.parseUint10] at h
    rw [List.cons_append]
    simp only [Lib.parseUint10]
    split at h
    · rename_i h1
      rw [if_pos h1]
      split at h
      · cases h
      · rename_i h2
        rw [if_neg h2]
        split at h
        · cases h
        · rename_i h3
          rw [if_neg h3]
          exact parse_app l _ v r h
    · cases h
theorem parse_dec : ∀ (n u : Nat), u ≤ n → u < 18446744073709551616 → Lib.parseUint10 0 (Lib.decDigits u) = .ok u
  | n, u, hn, hu => by
    have hd : (UInt8.ofNat (48 + u % 10)).toNat = 48 + u % 10 := by simp only [UInt8.toNat_ofNat']; omega
    by_cases h : u < 10
    · rw [Lib.decDigits, dif_pos h]
      rw [Nat.mod_eq_of_lt h] at hd
      simp only [Lib.parseUint10, hd]
      rw [if_pos (by omega), if_neg (by omega), if_neg (by omega)]
      congr 1
      omega
    · rw [Lib.decDigits, dif_neg h]
      cases n with
      | zero => omega
      | succ n =>
        rw [parse_app _ 0 (u / 10) _ (parse_dec n (u / 10) (by omega) (by omega))]
        simp only [Lib.parseUint10, hd]
        rw [if_pos (by omega), if_neg (by omega), if_neg (by omega)]
        congr 1
        omega
theorem dec_ne (u : Nat) : Lib.decDigits u ≠ [] := by
  rw [Lib.decDigits]
  split <;> simp
theorem atoi_itoa (v : Int) (h0 : -9223372036854775808 ≤ v) (h1 : v ≤ 9223372036854775807) : Lib.atoiAll (Lib.itoa v) = .ok v := by
  rcases Int.lt_or_le v 0 with h | h
  · obtain ⟨u, rfl⟩ : ∃ u : Nat, v = -(u : Int) := ⟨v.natAbs, by omega⟩
    rw [Lib.itoa_neg u (by omega), Lib.atoiAll_minus, Lib.parseMag, if_neg (dec_ne u), parse_dec u u (Nat.le_refl _) (by omega)]
    simp only [Lib.signed]
    rw [if_neg (by omega)]
  · obtain ⟨u, rfl⟩ : ∃ u : Nat, v = u := ⟨v.toNat, by omega⟩
    rw [Lib.itoa_nonneg]
    have hp := parse_dec u u (Nat.le_refl _) (by omega)
    have hm := dec_digits u u (Nat.le_refl _)
    cases hl : Lib.decDigits u with
    | nil => exact absurd hl (dec_ne u)
    | cons c r =>
      rw [hl] at hp hm
      have hc := hm c (by simp)
      rw [Lib.atoiAll_plain c r (by omega) (by omega), Lib.parseMag, if_neg (by simp), hp]
      simp only [Lib.signless]
      rw [if_neg (by omega)]
theorem itoa_bytes (v : Int) : ∀ b ∈ Lib.itoa v, b.toNat = 45 ∨ (48 ≤ b.toNat ∧ b.toNat ≤ 57) := by
  intro b hb
  rcases Int.lt_or_le v 0 with h | h
  · obtain ⟨u, rfl⟩ : ∃ u : Nat, v = -(u : Int) := ⟨v.natAbs, by omega⟩
    rw [Lib.itoa_neg u (by omega)] at hb
    rcases List.mem_cons.1 hb with rfl | hb
    · exact .inl rfl
    · exact .inr (dec_digits u u (Nat.le_refl _) b hb)
  · obtain ⟨u, rfl⟩ : ∃ u : Nat, v = u := ⟨v.toNat, by omega⟩
    rw [Lib.itoa_nonneg] at hb
    exact .inr (dec_digits u u (Nat.le_refl _) b hb)
theorem itoa_not (v : Int) (c : UInt8) (hc : c.toNat < 45) : c ∉ Lib.itoa v := fun h => by
  have := itoa_bytes v c h
  omega
theorem itoa_ne (v : Int) : Lib.itoa v ≠ [] := by
  rcases Int.lt_or_le v 0 with h | h
  · obtain ⟨u, rfl⟩ : ∃ u : Nat, v = -(u : Int) := ⟨v.natAbs, by omega⟩
    rw [Lib.itoa_neg u (by omega)]
    simp
  · obtain ⟨u, rfl⟩ : ∃ u : Nat, v = u := ⟨v.toNat, by omega⟩
    rw [Lib.itoa_nonneg]
    exact dec_ne u
end Go.Proofs.YtgphigpbgiceiaaGreatDoor
