/- A text has one call, or none. -/
import Derived.Test.YtgphigpbgiceiaaGreatDoorClParse
namespace Go.Proofs.YtgphigpbgiceiaaGreatDoor
set_option linter.unusedVariables false
set_option linter.unusedSimpArgs false

/-- A text's call, or none: one answer. -/
theorem parse_one {s : ByteArray} {c d : Cl} {e f : Int}
    (h1 : (e = 0 ∧ c.Ok ∧ textB c = true ∧ (⟨(clText c ((usesF c.kind).getD [])).toArray⟩ : ByteArray) = s) ∨ (e = 160 ∧ c = zeroCl ∧ ∀ d : Cl, d.Ok → textB d = true → (⟨(clText d ((usesF d.kind).getD [])).toArray⟩ : ByteArray) ≠ s))
    (h2 : (f = 0 ∧ d.Ok ∧ textB d = true ∧ (⟨(clText d ((usesF d.kind).getD [])).toArray⟩ : ByteArray) = s) ∨ (f = 160 ∧ d = zeroCl ∧ ∀ d : Cl, d.Ok → textB d = true → (⟨(clText d ((usesF d.kind).getD [])).toArray⟩ : ByteArray) ≠ s)) : d = c ∧ f = e := by
  rcases h1 with ⟨rfl, a1, a2, a3⟩ | ⟨rfl, rfl, a1⟩
  · rcases h2 with ⟨rfl, b1, b2, b3⟩ | ⟨rfl, rfl, b1⟩
    · have e1 := candP_text c a1 a2
      have e2 := candP_text d b1 b2
      rw [show clText d ((usesF d.kind).getD []) = clText c ((usesF c.kind).getD []) from by
        have h := b3.trans a3.symm
        exact List.toArray_inj (congrArg ByteArray.data h)] at e2
      exact ⟨e2.symm.trans e1, rfl⟩
    · exact absurd a3 (b1 c a1 a2)
  · rcases h2 with ⟨rfl, b1, b2, b3⟩ | ⟨rfl, rfl, b1⟩
    · exact absurd b3 (a1 d b1 b2)
    · exact ⟨rfl, rfl⟩
end Go.Proofs.YtgphigpbgiceiaaGreatDoor
