/- Whether whole numbers are from 0 to 255 and none twice, by the sorted row. -/
import Derived.Lib.SlicesCompact
namespace Go.Proofs.YtgphigpbgiceiaaGreatDoor
set_option linter.unusedVariables false
set_option linter.unusedSimpArgs false

def sortI (l : List Int) : List Int := l.mergeSort fun x y => decide (x ≤ y)
theorem sortI_perm (l : List Int) : (sortI l).Perm l := List.mergeSort_perm l _
theorem sortI_len (l : List Int) : (sortI l).length = l.length := (sortI_perm l).length_eq
theorem sortI_pair (l : List Int) : (sortI l).Pairwise (· ≤ ·) := by
  have := List.pairwise_mergeSort (le := fun x y : Int => decide (x ≤ y)) (by intro a b c h1 h2; simp at *; omega) (by intro a b; simp; omega) l
  exact this.imp (by simp)
theorem sortI_le (l : List Int) (i j : Nat) (hij : i ≤ j) (hj : j < (sortI l).length) : (sortI l)[i] ≤ (sortI l)[j] := by
  rcases Nat.lt_or_eq_of_le hij with h | rfl
  · exact (List.pairwise_iff_getElem.1 (sortI_pair l)) i j (by omega) hj h
  · exact Int.le_refl _
/-- Requests that may be: each from 0 to 255, none twice. -/
def okReqs (l : List Int) : Bool := (l.all fun n => decide (0 ≤ n) && decide (n ≤ 255)) && decide l.Nodup
theorem keeps_iff (l : List Int) (j : Nat) (hj : j < l.length) (h0 : 0 < j) : Lib.keeps l.toArray j = true ↔ l[j] ≠ l[j - 1] := by
  unfold Lib.keeps
  have h1 : l.toArray[j]! = l[j] := by rw [getElem!_pos _ _ (by simpa using hj)]; simp
  have h2 : l.toArray[j - 1]! = l[j - 1] := by rw [getElem!_pos _ _ (by simp; omega)]; simp
  rw [h1, h2, decide_eq_true_iff]
  constructor
  · rintro (h | h)
    · omega
    · exact h
  · exact .inr
theorem compact_len (l : List Int) : (Lib.compact (sortI l)).length = l.length ↔ l.Nodup := by
  rw [← sortI_len l]
  have hN : l.Nodup ↔ (sortI l).Nodup := (sortI_perm l).symm.nodup_iff
  rw [hN]
  constructor
  · intro h
    have hall : ∀ j, j < (sortI l).length → Lib.keeps (sortI l).toArray j = true := by
      unfold Lib.compact Lib.compactUpTo at h
      rw [List.length_map] at h
      have h2 : ((List.range (sortI l).length).filter (Lib.keeps (sortI l).toArray)).length = (List.range (sortI l).length).length := by rw [h, List.length_range]
      have h3 := List.length_filter_eq_length_iff.1 h2
      exact fun j hj => h3 j (List.mem_range.2 hj)
    unfold List.Nodup
    rw [List.pairwise_iff_getElem]
    intro i j hi hj hij he
    have h1 := (keeps_iff (sortI l) (i + 1) (by omega) (by omega)).1 (hall (i + 1) (by omega))
    simp only [Nat.add_sub_cancel] at h1
    have h2 := sortI_le l i (i + 1) (by omega) (by omega)
    have h3 := sortI_le l (i + 1) j (by omega) hj
    omega
  · intro h
    rw [Lib.compact_all]
    intro j hj
    rcases Nat.eq_zero_or_pos j with rfl | h0
    · exact Lib.keeps_lt_one _ 0 (by omega)
    · rw [keeps_iff _ _ hj h0]
      intro he
      have := (List.pairwise_iff_getElem.1 h) (j - 1) j (by omega) hj (by omega)
      exact this he.symm
theorem all_ge (l : List Int) (h : 0 < l.length) : 0 ≤ (sortI l)[0]'(by rw [sortI_len]; exact h) ↔ ∀ x ∈ l, 0 ≤ x := by
  constructor
  · intro h0 x hx
    obtain ⟨j, hj, rfl⟩ := List.getElem_of_mem ((sortI_perm l).mem_iff.2 hx)
    exact Int.le_trans h0 (sortI_le l 0 j (by omega) hj)
  · intro ha
    exact ha _ ((sortI_perm l).mem_iff.1 (List.getElem_mem _))
theorem all_lt (l : List Int) (h : 0 < l.length) : (sortI l)[l.length - 1]'(by rw [sortI_len]; omega) < 256 ↔ ∀ x ∈ l, x ≤ 255 := by
  constructor
  · intro h0 x hx
    obtain ⟨j, hj, rfl⟩ := List.getElem_of_mem ((sortI_perm l).mem_iff.2 hx)
    have hj2 := hj
    rw [sortI_len] at hj2
    have := sortI_le l j (l.length - 1) (by omega) (by rw [sortI_len]; omega)
    omega
  · intro ha
    have := ha _ ((sortI_perm l).mem_iff.1 (List.getElem_mem (l := sortI l) (n := l.length - 1) (by rw [sortI_len]; omega)))
    omega
/-- What the program asks of the sorted row, and what it comes to. -/
theorem okReqs_sorted (l : List Int) (h : 0 < l.length) : okReqs l = (decide ((Lib.compact (sortI l)).length = l.length) && decide (0 ≤ (sortI l)[0]'(by rw [sortI_len]; exact h)) && decide ((sortI l)[l.length - 1]'(by rw [sortI_len]; omega) < 256)) := by
  rw [Bool.eq_iff_iff]
  unfold okReqs
  simp only [Bool.and_eq_true, decide_eq_true_iff, List.all_eq_true]
  rw [compact_len, all_ge l h, all_lt l h]
  constructor
  · rintro ⟨h1, h2⟩
    exact ⟨⟨h2, fun x hx => (h1 x hx).1⟩, fun x hx => (h1 x hx).2⟩
  · rintro ⟨⟨h2, h1⟩, h3⟩
    exact ⟨fun x hx => ⟨h1 x hx, h3 x hx⟩, h2⟩
end Go.Proofs.YtgphigpbgiceiaaGreatDoor
