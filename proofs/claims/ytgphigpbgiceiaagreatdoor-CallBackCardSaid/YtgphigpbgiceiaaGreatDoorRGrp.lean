/- The walk of the reference's mayGroup; the inner loop over what came before, for it and for May. -/
import Derived.Test.YtgphigpbgiceiaaGreatDoorGrpMay
namespace Go.Proofs.YtgphigpbgiceiaaGreatDoor
open Go.RowKit Go.Sort
set_option linter.unusedVariables false
set_option linter.unusedSimpArgs false

theorem len_parts (p : Int → Bool) : ∀ l : List Int, l.length = (l.filter p).length + (l.filter fun x => !p x).length
  | [] => rfl
  | x :: l => by
    have ih := len_parts p l
    cases h : p x
    · simp [h]
      omega
    · simp [h]
      omega
theorem nodup_bound : ∀ (n : Nat) (l : List Int), l.Nodup → (∀ x ∈ l, 0 ≤ x ∧ x < n) → l.length ≤ n
  | 0, l, hn, h => by
    cases l with
    | nil => exact Nat.le_refl _
    | cons x l =>
      have := h x (by simp)
      omega
  | n + 1, l, hn, h => by
    have h1 := nodup_bound n (l.filter fun x => decide (x ≠ (n : Int))) (hn.sublist List.filter_sublist) (fun x hx => by
      rw [List.mem_filter] at hx
      have := h x hx.1
      have h2 := hx.2
      simp at h2
      omega)
    have h3 : (l.filter fun x => !decide (x ≠ (n : Int))).length ≤ 1 := by
      have hd : (l.filter fun x => !decide (x ≠ (n : Int))).Nodup := hn.sublist List.filter_sublist
      match hf : l.filter fun x => !decide (x ≠ (n : Int)), hd with
      | [], _ => simp
      | [a], _ => simp
      | a :: b :: r, hd =>
        have ha : a ∈ l.filter fun x => !decide (x ≠ (n : Int)) := by rw [hf]; simp
        have hb : b ∈ l.filter fun x => !decide (x ≠ (n : Int)) := by rw [hf]; simp
        rw [List.mem_filter] at ha hb
        have e1 := ha.2
        have e2 := hb.2
        simp at e1 e2
        subst e1
        subst e2
        simp at hd
    have h4 := len_parts (fun x => decide (x ≠ (n : Int))) l
    omega
theorem groupB_long (l : List Int) (h : 64 < l.length) : groupB l = false := by
  cases hg : groupB l with
  | false => rfl
  | true =>
    unfold groupB at hg
    simp only [Bool.and_eq_true, List.all_eq_true, decide_eq_true_iff] at hg
    have := nodup_bound 64 l hg.1.2 hg.1.1
    omega

end Go.Proofs.YtgphigpbgiceiaaGreatDoor
