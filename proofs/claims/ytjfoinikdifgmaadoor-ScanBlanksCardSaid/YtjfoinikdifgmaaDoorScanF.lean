/- Plain words of chapter 01: the words of a text, or the error and its place, step by step as package scan goes. -/
import Derived.Test.YtjfoinikdifgmaaDoorTokP
import Derived.Test.YtjfoinikdifgmaaDoorAdv
namespace Go.Proofs.YtjfoinikdifgmaaDoor

/-- The words, the place and number of the error. -/
abbrev ScanRes := List Tok × Int × Int × Int
def scanF : Nat → List UInt8 → Int → Int → List Tok → ScanRes
  | 0, _, _, _, acc => (acc, 0, 0, 0)
  | f + 1, l, a, b, acc =>
    if l = [] then (acc, 0, 0, 0)
    else if 0 < blankLen l then scanF f (l.drop (blankLen l)) (adv (l.take (blankLen l)) a b).1 (adv (l.take (blankLen l)) a b).2 acc
    else if (firstTok l).kind = 0 then ([], a, b, 10)
    else scanF f (l.drop (firstTok l).text.size) (adv (l.take (firstTok l).text.size) a b).1 (adv (l.take (firstTok l).text.size) a b).2 (acc ++ [{ firstTok l with line := a, col := b }])
def scanOf (l : List UInt8) : ScanRes := if 20000 < l.length then ([], 0, 0, 3) else scanF (l.length + 1) l 1 1 []

theorem bytesOf_size (l : List UInt8) : (bytesOf l).size = l.length := by simp [bytesOf, ByteArray.size]
theorem bytesOf_data (l : List UInt8) : (bytesOf l).data.toList = l := by simp [bytesOf]
theorem prefix_take {l p : List UInt8} (h : Lib.hasPrefix l p = true) : p.length ≤ l.length ∧ l.take p.length = p := by
  unfold Lib.hasPrefix at h
  rw [List.isPrefixOf_iff_prefix] at h
  exact ⟨h.length_le, (List.prefix_iff_eq_take.1 h).symm⟩
theorem signs_pos : ∀ g ∈ scanSigns, 0 < g.size ∧ g.size ≤ 2 := by decide
/-- What the word that a text begins with is like. -/
structure FirstOk (l : List UInt8) (t : Tok) : Prop where
  pos : 0 < t.text.size
  le : t.text.size ≤ l.length
  take : l.take t.text.size = t.text.data.toList
  kind : 1 ≤ t.kind ∧ t.kind ≤ 4
  num : 0 ≤ t.num ∧ t.num < 1000000000000000000
theorem firstTok_ok (l : List UInt8) (h : (firstTok l).kind ≠ 0) : FirstOk l (firstTok l) := by
  have hn := lead_le isNamed l
  have hd := lead_le isDigit l
  unfold firstTok at h ⊢
  split
  · rename_i h1
    rw [if_pos h1] at h
    simp only [Bool.and_eq_true, decide_eq_true_eq] at h1
    have e : (bytesOf (l.take (lead isNamed l))).size = lead isNamed l := by rw [bytesOf_size, List.length_take]; omega
    refine ⟨by simp only [e]; omega, by simp only [e]; omega, by simp only [e, bytesOf_data], ?_, by simp⟩
    simp only at h ⊢
    split
    · omega
    · split
      · omega
      · rename_i h2 h3; simp [h2, h3] at h
  · rename_i h1
    rw [if_neg h1] at h
    split
    · rename_i h2
      rw [if_pos h2] at h
      split
      · rename_i h3
        have e : (bytesOf (l.take (lead isDigit l))).size = lead isDigit l := by rw [bytesOf_size, List.length_take]; omega
        have hl : (l.take (lead isDigit l)).length ≤ 18 := by
          unfold numOk at h3
          simp only [Bool.and_eq_true, decide_eq_true_eq] at h3
          exact h3.1
        have := valOf_lt18 (lead_take_digits l) hl
        exact ⟨by simp only [e]; omega, by simp only [e]; omega, by simp only [e, bytesOf_data], by simp, by simp only; omega⟩
      · rename_i h3
        rw [if_neg h3] at h
        exact absurd rfl h
    · rename_i h2
      rw [if_neg h2] at h
      cases hs : signOf l with
      | none => rw [hs] at h; exact absurd rfl h
      | some g =>
        unfold signOf at hs
        have hm := List.mem_of_find?_eq_some hs
        have hp := List.find?_some hs
        obtain ⟨h3, h4⟩ := prefix_take hp
        have h5 := signs_pos g hm
        have e : g.data.toList.length = g.size := by simp
        rw [e] at h3 h4
        exact ⟨by simp only; omega, by simp only; omega, by simp only [h4], by simp, by simp⟩
end Go.Proofs.YtjfoinikdifgmaaDoor
