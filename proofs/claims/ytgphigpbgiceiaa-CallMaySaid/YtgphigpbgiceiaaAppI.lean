/- 'append([]T{}, xs...)': a copy, whatever xs. -/
import Derived.Test.YtgphigpbgiceiaaCopyI
namespace Go.Proofs.Ytgphigpbgiceiaa
open Go.RowKit Go.Sort
set_option linter.unusedVariables false
set_option linter.unusedSimpArgs false

theorem append_made_copy (w : World) (t ty e : TypeId) (i : TypeInfo) (z : Value) (size bytes : Nat) (ht : Try.prog.underlying t = some (.slice e)) (hi : Try.prog.info? e = some i) (hz : i.zero = some z) (hs : i.size = size) (hby : i.bytes = bytes) (hzs : z.cells.size = size) (hsz : 0 < size)
    (base g cap : Nat) (hown : w.ownsRow base e size (.slice (some ⟨g, 0, none⟩) 0 cap) 0 []) (hbase : base ≤ w.heap.size)
    (A : Option Addr) (n c : Nat) (cs : List Value) (hcs : cs.length = n * size) (hc : ∀ j u, cs[j]? = some u → ∃ a, A = some a ∧ w.cell? (a.add j) = some u) (h1 : ∀ u ∈ cs, u.oneCell' = true) (b1 : n ≤ maxLen) (b2 : n * bytes ≤ 140737488355328) :
    ∃ v w', (Builtin.append_ #[t, t] ty #[.slice (some ⟨g, 0, none⟩) 0 cap, .slice A n c]).run Try.prog w = .ok v w' ∧ w'.ownsRow base e size v n cs ∧ w.grownBy w' (some g) := by
  cases A with
  | none =>
    rcases Nat.eq_zero_or_pos n with rfl | hn
    · obtain rfl : cs = [] := List.eq_nil_of_length_eq_zero (by simpa using hcs)
      exact ⟨_, w, run_append_nothing w _ _ _ _ i ht hi _ 0 cap (Nat.zero_le _) _ (Src.ofNil w ht c), hown, ⟨rfl, rfl, rfl, Nat.le_refl _, fun _ _ _ => rfl⟩⟩
    · have hpos : 0 < cs.length := by rw [hcs]; exact Nat.mul_pos hn hsz
      obtain ⟨a, e', _⟩ := hc 0 cs[0] (List.getElem?_eq_getElem hpos)
      cases e'
  | some a =>
    obtain ⟨v', w', hrun, r1, r2, _⟩ := run_append_own (P := Try.prog) w base t ty e i z size bytes ht hi hz hs hby hzs hsz (.slice (some ⟨g, 0, none⟩) 0 cap) 0 [] hown a n c cs hcs (fun j u hj => by
      obtain ⟨a', e', h⟩ := hc j u hj
      cases e'
      exact h) h1 (by rw [Nat.zero_add]; exact b1) (by rw [Nat.zero_add]; exact b2) hbase
    rw [Nat.zero_add, List.nil_append] at r1
    exact ⟨v', w', hrun, r1, by simpa [Value.ownBlock] using r2⟩
theorem wpList_append_made_copy (w : World) {ops : Array Oper} {rest : List Oper} {o : Oper} {a : Act} {Q : Exit → Act → World → Prop} (hg : o.guard = none) (s x : Operand) (t : TypeId)
    (hop : o.op = Op.call { callee := Callee.builtin Builtin.append, args := #[s, x], argTypes := #[t, t] })
    (e : TypeId) (i : TypeInfo) (z : Value) (size bytes : Nat) (ht : Try.prog.underlying t = some (.slice e)) (hi : Try.prog.info? e = some i) (hz : i.zero = some z) (hs : i.size = size) (hby : i.bytes = bytes) (hzs : z.cells.size = size) (hsz : 0 < size)
    (base g cap : Nat) (hown : w.ownsRow base e size (.slice (some ⟨g, 0, none⟩) 0 cap) 0 []) (hbase : base ≤ w.heap.size)
    (A : Option Addr) (n c : Nat) (cs : List Value) (hse : a.eval s = .slice (some ⟨g, 0, none⟩) 0 cap) (hxe : a.eval x = .slice A n c) (hcs : cs.length = n * size) (hc : ∀ j u, cs[j]? = some u → ∃ a, A = some a ∧ w.cell? (a.add j) = some u) (h1 : ∀ u ∈ cs, u.oneCell' = true) (b1 : n ≤ maxLen) (b2 : n * bytes ≤ 140737488355328)
    (hK : ∀ v w', w'.ownsRow base e size v n cs → w.grownBy w' (some g) → wpList Try.prog ops Q rest (a.put o.dst v) w') : wpList Try.prog ops Q (o :: rest) a w := by
  refine wpList_plain hg fun K hK' => ?_
  obtain ⟨v, w', hrun, r1, r2⟩ := append_made_copy w t o.type e i z size bytes ht hi hz hs hby hzs hsz base g cap hown hbase A n c cs hcs hc h1 b1 b2
  unfold Oper.wp
  simp [execOp, hop, resolve, invoke, builtin, hse, hxe, hrun, Result.andThen]
  exact hK' _ _ (hK v w' r1 r2)
end Go.Proofs.Ytgphigpbgiceiaa
