/- What call.uses tells of a kind, as regions that draw their order want it. -/
import Derived.Test.YtgphigpbgiceiaaClSet
import Derived.Test.YtgphigpbgiceiaaRegRel
import Derived.Deep.Cut
namespace Go.Proofs.Ytgphigpbgiceiaa
open Go.RowKit Go.Sort
set_option linter.unusedVariables false
set_option linter.unusedSimpArgs false

/-- The map of uses. -/
def UsesAt (u : Value) (w : World) : Prop := ∃ (w0 : World) (r a b c d x f g h : Nat), u = .map (some r) ∧ InMap w0 r (usesEnts a b c d x f g h) (usesRows a b c d x f g h) w
theorem UsesAt.stay (u : Value) (w w' : World) (hb : Below w.heap.size w w') (h : UsesAt u w) : UsesAt u w' := by
  obtain ⟨w0, r, a, b, c, d, x, f, g, i, rfl, hI⟩ := h
  exact ⟨w0, r, a, b, c, d, x, f, g, i, rfl, hI.later hb⟩
/-- What a kind uses, as a row; none: the empty one. -/
def UsesRow (k : Int) (u : Value) (w : World) : Prop := ∃ (A : Option Addr) (l : List Int), (usesF k).getD [] = l ∧ u = .slice A l.length l.length ∧ IntRow w A l
theorem UsesRow.stay (k : Int) (u : Value) (w w' : World) (hb : Below w.heap.size w w') (h : UsesRow k u w) : UsesRow k u w' := by
  obtain ⟨A, l, h1, h2, h3⟩ := h
  exact ⟨A, l, h1, h2, h3.below hb⟩
def UsesTold (k : Int) (u : Value) (w : World) : Prop := ∃ v, u = .tuple #[v, .bool (usesF k).isSome] ∧ UsesRow k v w
theorem UsesTold.stay (k : Int) (u : Value) (w w' : World) (hb : Below w.heap.size w w') (h : UsesTold k u w) : UsesTold k u w' := by
  obtain ⟨v, h1, h2⟩ := h
  exact ⟨v, h1, h2.stay _ _ _ _ hb⟩
theorem look_told (k : Int) (u : Value) (w : World) (h : UsesAt u w) : ∃ t, (Instr.lookup 35 u (.int .u8 k) true).run Try.prog w = .ok t w ∧ UsesTold k t w := by
  obtain ⟨w0, r, a, b, c, d, x, f, g, i, rfl, hI⟩ := h
  rcases look_any k true hI with ⟨l, q, h1, h2, h3⟩ | ⟨h1, h2⟩
  · exact ⟨_, h2, _, by rw [h1]; rfl, some ⟨q, 0, none⟩, l, by rw [h1]; rfl, rfl, h3⟩
  · exact ⟨_, h2, _, by rw [h1]; rfl, none, [], by rw [h1]; rfl, rfl, fun k hk => absurd hk (by simp)⟩
end Go.Proofs.Ytgphigpbgiceiaa
