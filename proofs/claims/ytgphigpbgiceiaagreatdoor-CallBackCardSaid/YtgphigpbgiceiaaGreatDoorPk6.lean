/- What call.uses tells of a kind, as regions that draw their order want it. · 'append([]int(nil), xs...)': a copy (as in chapter 05's texts, for other seats). -/
import Derived.Test.YtgphigpbgiceiaaGreatDoorClSet
import Derived.Test.YtgphigpbgiceiaaGreatDoorRegRel
import Derived.Deep.Cut
import Derived.Test.YtgphigpbgiceiaaGreatDoorPk0
import Derived.Deep.Upon
namespace Go.Proofs.YtgphigpbgiceiaaGreatDoor
open Go.RowKit Go.Sort
set_option linter.unusedVariables false
set_option linter.unusedSimpArgs false

/-- The map of uses. -/
def UsesAt (u : Value) (w : World) : Prop := ∃ (w0 : World) (r a b c d x f g h : Nat), u = .map (some r) ∧ InMap w0 r (usesEnts a b c d x f g h) (usesRows a b c d x f g h) w
theorem UsesAt.stay (u : Value) (w w' : World) (hb : Below w.heap.size w w') (h : UsesAt u w) : UsesAt u w' := by
  obtain ⟨w0, r, a, b, c, d, x, f, g, i, rfl, hI⟩ := h
  exact ⟨w0, r, a, b, c, d, x, f, g, i, rfl, hI.later hb⟩
/-- What a kind uses, as a row; none: the empty one. -/
def UsesRow (k : Int) (u : Value) (w : World) : Prop := ∃ (A : Option Addr) (l : List Int), (usesF k).getD [] = l ∧ u = .slice A l.length l.length ∧ IntRow w A l
theorem UsesRow.stay (k : Int) (u : Value) (w w' : World) (hb : Below w.heap.size w w') (h : UsesRow k u w) : UsesRow k u w' := by
  obtain ⟨A, l, h1, h2, h3⟩ := h
  exact ⟨A, l, h1, h2, h3.below hb⟩
def UsesTold (k : Int) (u : Value) (w : World) : Prop := ∃ v, u = .tuple #[v, .bool (usesF k).isSome] ∧ UsesRow k v w
theorem UsesTold.stay (k : Int) (u : Value) (w w' : World) (hb : Below w.heap.size w w') (h : UsesTold k u w) : UsesTold k u w' := by
  obtain ⟨v, h1, h2⟩ := h
  exact ⟨v, h1, h2.stay _ _ _ _ hb⟩
theorem look_told (k : Int) (u : Value) (w : World) (h : UsesAt u w) : ∃ t, (Instr.lookup 47 u (.int .u8 k) true).run Tryz.prog w = .ok t w ∧ UsesTold k t w := by
  obtain ⟨w0, r, a, b, c, d, x, f, g, i, rfl, hI⟩ := h
  rcases look_any k true hI with ⟨l, q, h1, h2, h3⟩ | ⟨h1, h2⟩
  · exact ⟨_, h2, _, by rw [h1]; rfl, some ⟨q, 0, none⟩, l, by rw [h1]; rfl, rfl, h3⟩
  · exact ⟨_, h2, _, by rw [h1]; rfl, none, [], by rw [h1]; rfl, rfl, fun k hk => absurd hk (by simp)⟩
end Go.Proofs.YtgphigpbgiceiaaGreatDoor
namespace Go.Proofs.YtgphigpbgiceiaaGreatDoor
open Go.RowKit Go.Sort
set_option linter.unusedVariables false
set_option linter.unusedSimpArgs false

theorem Tryz.infoInt : (Tryz.prog.info? 3).map (fun i => (i.zero, i.size, i.bytes)) = some (some (.int .i64 0), 1, 8) := by kernel_rfl
/-- 'append([]T(nil), xs...)': a copy. -/
theorem append_nil_copy (w : World) (t ty e : TypeId) (i : TypeInfo) (z : Value) (size bytes : Nat) (ht : Tryz.prog.underlying t = some (.slice e)) (hi : Tryz.prog.info? e = some i) (hz : i.zero = some z) (hs : i.size = size) (hby : i.bytes = bytes) (hzs : z.cells.size = size) (hsz : 0 < size)
    (A : Option Addr) (n c : Nat) (cs : List Value) (hcs : cs.length = n * size) (hc : ∀ j u, cs[j]? = some u → ∃ a, A = some a ∧ w.cell? (a.add j) = some u) (h1 : ∀ u ∈ cs, u.oneCell' = true) (b1 : n ≤ maxLen) (b2 : n * bytes ≤ 140737488355328) :
    ∃ v w', (Builtin.append_ #[t, t] ty #[.slice none 0 0, .slice A n c]).run Tryz.prog w = .ok v w' ∧ w'.ownsRow w.heap.size e size v n cs ∧ w.grownBy w' none := by
  rcases Nat.eq_zero_or_pos n with rfl | hn
  · obtain rfl : cs = [] := List.eq_nil_of_length_eq_zero (by simpa using hcs)
    refine ⟨.slice none 0 0, w, ?_, World.ownsRow_nil w _ e size, ⟨rfl, rfl, rfl, Nat.le_refl _, fun _ _ _ => rfl⟩⟩
    cases A with
    | none => exact run_append_nothing w _ _ _ _ i ht hi _ 0 0 (Nat.le_refl _) _ (Src.ofNil w ht c)
    | some a => exact run_append_nothing w _ _ _ _ i ht hi _ 0 0 (Nat.le_refl _) _ (Src.ofSlice w ht a 0 c [] (by simp) (by simp) (by simp))
  · have hpos : 0 < cs.length := by rw [hcs]; exact Nat.mul_pos hn hsz
    obtain ⟨a, rfl, _⟩ := hc 0 cs[0] (List.getElem?_eq_getElem hpos)
    obtain ⟨v', w', hrun, r1, r2, _⟩ := run_append_own (P := Tryz.prog) w w.heap.size t ty e i z size bytes ht hi hz hs hby hzs hsz (.slice none 0 0) 0 [] (World.ownsRow_nil w _ e size) a n c cs hcs (fun j u hj => by
      obtain ⟨a', e', h⟩ := hc j u hj
      cases e'
      exact h) h1 (by rw [Nat.zero_add]; exact b1) (by rw [Nat.zero_add]; exact b2) (Nat.le_refl _)
    rw [Nat.zero_add, List.nil_append] at r1
    exact ⟨v', w', hrun, r1, r2⟩
theorem wpList_append_nil_copy (w : World) {ops : Array Oper} {rest : List Oper} {o : Oper} {a : Act} {Q : Exit → Act → World → Prop} (hg : o.guard = none) (s x : Operand) (t : TypeId)
    (hop : o.op = Op.call { callee := Callee.builtin Builtin.append, args := #[s, x], argTypes := #[t, t] })
    (e : TypeId) (i : TypeInfo) (z : Value) (size bytes : Nat) (ht : Tryz.prog.underlying t = some (.slice e)) (hi : Tryz.prog.info? e = some i) (hz : i.zero = some z) (hs : i.size = size) (hby : i.bytes = bytes) (hzs : z.cells.size = size) (hsz : 0 < size)
    (A : Option Addr) (n c : Nat) (cs : List Value) (hse : a.eval s = .slice none 0 0) (hxe : a.eval x = .slice A n c) (hcs : cs.length = n * size) (hc : ∀ j u, cs[j]? = some u → ∃ a, A = some a ∧ w.cell? (a.add j) = some u) (h1 : ∀ u ∈ cs, u.oneCell' = true) (b1 : n ≤ maxLen) (b2 : n * bytes ≤ 140737488355328)
    (hK : ∀ v w', w'.ownsRow w.heap.size e size v n cs → w.grownBy w' none → wpList Tryz.prog ops Q rest (a.put o.dst v) w') : wpList Tryz.prog ops Q (o :: rest) a w := by
  refine wpList_plain hg fun K hK' => ?_
  obtain ⟨v, w', hrun, r1, r2⟩ := append_nil_copy w t o.type e i z size bytes ht hi hz hs hby hzs hsz A n c cs hcs hc h1 b1 b2
  unfold Oper.wp
  simp [execOp, hop, resolve, invoke, builtin, hse, hxe, hrun, Result.andThen]
  exact hK' _ _ (hK v w' r1 r2)
theorem intRow_cells {w : World} {A : Option Addr} {l : List Int} (h : IntRow w A l) : ∀ j u, (l.map (Value.int .i64))[j]? = some u → ∃ a, A = some a ∧ w.cell? (a.add j) = some u := fun j u hj => by
  have hlt : j < l.length := by
    have := (List.getElem?_eq_some_iff.1 hj).1
    simpa using this
  obtain ⟨b, o, rfl, _, h0⟩ := h j hlt
  refine ⟨_, rfl, ?_⟩
  rw [Addr.add_lit, h0, ← hj]
  simp [List.getElem?_eq_getElem hlt]
theorem intRow_of_own {w : World} {base c : Nat} {A : Option Addr} {l : List Int} (h : w.ownsRow base 3 1 (.slice A l.length c) l.length (l.map (Value.int .i64))) : IntRow w A l := fun k hk => by
  obtain ⟨A', c', e, _, _, h1, h2⟩ := own_shape h
  cases e
  cases A with
  | none => have := (h2 rfl).1; omega
  | some a =>
    obtain ⟨g, rfl, _, hlt⟩ := h1 a rfl
    refine ⟨g, 0, rfl, hlt, ?_⟩
    rw [Nat.zero_add, h.cellAt k (by omega)]
    simp [List.getElem?_eq_getElem hk]
end Go.Proofs.YtgphigpbgiceiaaGreatDoor
