/- Plain words: the words of words joined by blanks. -/
import Derived.Test.YtjfoinikdifgmaaDoorBackP
namespace Go.Proofs.YtjfoinikdifgmaaDoor
set_option linter.unusedVariables false
set_option linter.unusedSimpArgs false

def joinB : List (List UInt8) → List UInt8
  | [] => []
  | [x] => x
  | x :: y :: r => x ++ 32 :: joinB (y :: r)
/-- The words, on one line, from a column on. -/
def backToks : Int → List (List UInt8) → List Tok
  | _, [] => []
  | b, x :: r => { ofTok x with line := 1, col := b } :: backToks (b + x.length + 1) r
theorem joinB_len : ∀ (xs : List (List UInt8)), (joinB xs).length ≤ (xs.map List.length).sum + xs.length
  | [] => by simp [joinB]
  | [x] => by simp [joinB]
  | x :: y :: r => by
    have := joinB_len (y :: r)
    simp only [joinB, List.length_append, List.length_cons, List.map_cons, List.sum_cons] at this ⊢
    omega
theorem ref_join : ∀ (xs : List (List UInt8)), (∀ x ∈ xs, WordAt x) → ∀ (f : Nat) (b : Int) (acc : List Tok), 2 * xs.length ≤ f → refF f (joinB xs) 1 b acc = (acc ++ backToks b xs, 0, 0, 0)
  | [], h, f, b, acc, hf => by
    cases f <;> simp [joinB, refF, backToks]
  | [x], h, f, b, acc, hf => by
    simp only [List.length_cons, List.length_nil] at hf
    obtain ⟨f, rfl⟩ : ∃ g, f = g + 2 := ⟨f - 2, by omega⟩
    have := ref_word (h x (by simp)) (.inl rfl) (f + 1) 1 b acc
    rw [List.append_nil] at this
    rw [joinB, this, refF]
    rfl
  | x :: y :: r, h, f, b, acc, hf => by
    simp only [List.length_cons] at hf
    obtain ⟨f, rfl⟩ : ∃ g, f = g + 2 := ⟨f - 2, by omega⟩
    rw [joinB, ref_word (h x (by simp)) (.inr ⟨32, _, rfl, by decide⟩) (f + 1) 1 b acc, refF, if_neg (by decide), if_pos (by decide)]
    rw [ref_join (y :: r) (fun z hz => h z (by simp [hz])) f _ _ (by simp only [List.length_cons]; omega)]
    rw [List.append_assoc]
    rfl
theorem joinB_ge : ∀ ys : List (List UInt8), (∀ x ∈ ys, WordAt x) → 2 * ys.length ≤ (joinB ys).length + 1
  | [], _ => by simp
  | [x], h => by
    have := (h x (by simp)).pos
    simp only [joinB, List.length_cons, List.length_nil]
    omega
  | x :: y :: r, h => by
    have := (h x (by simp)).pos
    have ih := joinB_ge (y :: r) (fun z hz => h z (by simp [hz]))
    simp only [joinB, List.length_append, List.length_cons] at ih ⊢
    omega
theorem backToks_same : ∀ (xs : List (List UInt8)) (b : Int), (backToks b xs).length = xs.length
  | [], _ => rfl
  | x :: r, b => by simp [backToks, backToks_same r]
end Go.Proofs.YtjfoinikdifgmaaDoor
