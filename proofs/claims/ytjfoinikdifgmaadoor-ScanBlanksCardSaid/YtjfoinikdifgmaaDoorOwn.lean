/- Rows that a call owns: a copy of bytes; words. -/
import Derived.Test.YtjfoinikdifgmaaDoorScanA
import Derived.ArgAppend
import Derived.Deep.Upon
import Derived.Laws.OwnMore
namespace Go.Proofs.YtjfoinikdifgmaaDoor
open Go.RowKit
set_option linter.unusedVariables false

theorem own_cells {w : World} {base g cap n : Nat} {e : TypeId} {size : Nat} {xs : List Value} (h : w.ownsRow base e size (.slice (some ⟨g, 0, none⟩) n cap) n xs) (j : Nat) (hj : j < n * size) : w.cell? ⟨g, j, none⟩ = xs[j]? := h.cellAt j hj
theorem tokCells_length (l : List Tok) : (tokCells l).length = l.length * 5 := by
  induction l with
  | nil => rfl
  | cons t l ih =>
    have : tokCells (t :: l) = t.cells ++ tokCells l := rfl
    rw [this, List.length_append, ih]
    simp [Tok.cells]
    omega
theorem tokCells_get : ∀ (l : List Tok) (k : Nat) (hk : k < l.length) (j : Nat), j < 5 → (tokCells l)[k * 5 + j]? = l[k].cells[j]?
  | t :: l, 0, _, j, hj => by
    have e : tokCells (t :: l) = t.cells ++ tokCells l := rfl
    rw [e, List.getElem?_append_left (by simp [Tok.cells]; omega)]
    simp
  | t :: l, k + 1, hk, j, hj => by
    have e : tokCells (t :: l) = t.cells ++ tokCells l := rfl
    have h5 : t.cells.length = 5 := rfl
    rw [e, List.getElem?_append_right (by omega), h5]
    have e2 : (k + 1) * 5 + j - 5 = k * 5 + j := by omega
    rw [e2, tokCells_get l k (by simpa using hk) j hj]
    simp
theorem own_lt6 {w : World} {base : Nat} {e : TypeId} {size n g cap : Nat} {xs : List Value} (h : w.ownsRow base e size (.slice (some ⟨g, 0, none⟩) n cap) n xs) : g < w.heap.size ∧ base ≤ g := by
  rcases h.2 with ⟨h', _⟩ | ⟨g', cap', cur, h', hb, hg, _⟩
  · simp at h'
  · simp only [Value.slice.injEq, Option.some.injEq, Addr.mk.injEq, and_true, true_and] at h'
    obtain ⟨rfl, rfl⟩ := h'
    exact ⟨(Array.getElem?_eq_some_iff.1 hg).1, hb⟩
theorem own_form {w : World} {base : Nat} {e : TypeId} {size n : Nat} {v : Value} {xs : List Value} (h : w.ownsRow base e size v n xs) : (v = .slice none 0 0 ∧ n = 0) ∨ ∃ g cap, v = .slice (some ⟨g, 0, none⟩) n cap ∧ n ≤ cap ∧ cap ≤ maxLen := by
  rcases h.2 with h' | ⟨g, cap, cur, rfl, _, _, h1, h2, _⟩
  · exact .inl h'
  · exact .inr ⟨g, cap, rfl, h1, h2⟩
theorem tokRow_of_own {w : World} {base : Nat} {v : Value} {l : List Tok} (h : w.ownsRow base 36 5 v l.length (tokCells l)) : ∃ A c, v = .slice A l.length c ∧ TokRow w A l ∧ l.length ≤ 9223372036854775807 := by
  rcases own_form h with ⟨rfl, h0⟩ | ⟨g, cap, rfl, hc, hm⟩
  · exact ⟨none, 0, by rw [h0], fun k hk => by omega, by omega⟩
  · refine ⟨_, _, rfl, fun k hk => ⟨g, 0, rfl, (own_lt6 h).1, ?_⟩, by unfold maxLen at hm; omega⟩
    have hj : ∀ j, j < 5 → w.cell? ⟨g, 0 + k * 5 + j, none⟩ = l[k].cells[j]? := fun j hj => by
      rw [Nat.zero_add, h.cellAt (k * 5 + j) (by omega), tokCells_get l k hk j hj]
    exact ⟨hj 0 (by omega), hj 1 (by omega), hj 2 (by omega), hj 3 (by omega), hj 4 (by omega)⟩

def byteVals (l : List UInt8) : List Value := l.map fun x => Value.int .u8 (x.toNat : Int)
theorem byteRow_of_own {w : World} {base g cap : Nat} {l : List UInt8} (h : w.ownsRow base 5 1 (.slice (some ⟨g, 0, none⟩) l.length cap) l.length (byteVals l)) : ByteRow w (some ⟨g, 0, none⟩) l := fun k hk => by
  refine ⟨g, 0, rfl, (own_lt6 h).1, ?_⟩
  rw [Nat.zero_add, h.cellAt k (by omega)]
  simp [byteVals, List.getElem?_eq_getElem hk]
theorem Tryd.infoByte : (Tryd.prog.info? 5).map (fun i => (i.zero, i.size, i.bytes)) = some (some (.int .u8 0), 1, 1) := by kernel_rfl

/-- 'append([]byte{}, text...)': a copy. -/
theorem append_copy (w : World) (A : Option Addr) (c : Nat) (l : List UInt8) (hR : ByteRow w A l) (hl : l.length ≤ 1000000) (b0 : Nat) (ty : TypeId) :
    ∃ g cp w', (Builtin.append_ #[27, 27] ty #[.slice (some ⟨b0, 0, none⟩) 0 0, .slice A l.length c]).run Tryd.prog w = .ok (.slice (some ⟨g, 0, none⟩) l.length cp) w' ∧ ByteRow w' (some ⟨g, 0, none⟩) l ∧ Below w.heap.size w w' ∧ l.length ≤ cp := by
  obtain ⟨i, hi, hz0, hz1, hz2⟩ := info_parts Tryd.infoByte
  cases hl0 : l with
  | nil =>
    refine ⟨b0, 0, w, ?_, fun k hk => absurd hk (Nat.not_lt_zero _), Below.refl _ _, Nat.le_refl _⟩
    cases A with
    | none => exact run_append_nothing w _ _ _ _ i Tryd.underlying27 hi _ 0 0 (Nat.le_refl _) _ (Src.ofNil w Tryd.underlying27 c)
    | some a => exact run_append_nothing w _ _ _ _ i Tryd.underlying27 hi _ 0 0 (Nat.le_refl _) _ (Src.ofSlice w Tryd.underlying27 a 0 c [] (by simp) (by simp) (by simp))
  | cons x r =>
    rw [← hl0]
    have hpos : 0 < l.length := by rw [hl0]; simp
    obtain ⟨b, o, rfl, _, _⟩ := hR 0 hpos
    obtain ⟨v', w', hrun, hown, hg⟩ := run_append_arg_grows (P := Tryd.prog) w 27 ty 5 i (.int .u8 0) 1 1 Tryd.underlying27 hi hz0 hz1 hz2 rfl (by omega) ⟨b0, 0, none⟩ 0 0 [] rfl (by simp) ⟨b, o, none⟩ l.length c (byteVals l) (by simp [byteVals])
      (fun j u hj => by
        have hjl : j < l.length := by
          have := (List.getElem?_eq_some_iff.1 hj).1
          simpa [byteVals] using this
        obtain ⟨b', o', e, _, hc⟩ := hR j hjl
        cases e
        rw [Addr.add_lit, hc]
        rw [← hj]
        simp [byteVals, List.getElem?_eq_getElem hjl]) (by omega) (by unfold maxLen; omega) (by omega)
    rw [Nat.zero_add, List.nil_append] at hown
    rcases own_form hown with ⟨_, h0⟩ | ⟨g, cap, rfl, hc, _⟩
    · omega
    · exact ⟨g, cap, w', hrun, byteRow_of_own hown, (Below.refl _ _).grown hg (Nat.le_refl _) (by simp), hc⟩
theorem wpList_append_copy (w : World) {ops : Array Oper} {rest : List Oper} {o : Oper} {a : Act} {Q : Exit → Act → World → Prop}
    (hg : o.guard = none) (s x : Operand) (hop : o.op = Op.call { callee := Callee.builtin Builtin.append, args := #[s, x], argTypes := #[27, 27] })
    (b0 : Nat) (A : Option Addr) (c : Nat) (l : List UInt8) (hs : a.eval s = .slice (some ⟨b0, 0, none⟩) 0 0) (hx : a.eval x = .slice A l.length c) (hR : ByteRow w A l) (hl : l.length ≤ 1000000)
    (hK : ∀ g cp w', ByteRow w' (some ⟨g, 0, none⟩) l → Below w.heap.size w w' → l.length ≤ cp → wpList Tryd.prog ops Q rest (a.put o.dst (.slice (some ⟨g, 0, none⟩) l.length cp)) w') :
    wpList Tryd.prog ops Q (o :: rest) a w := by
  refine wpList_plain hg fun K hK' => ?_
  obtain ⟨g, cp, w', hrun, r1, r2, r3⟩ := append_copy w A c l hR hl b0 o.type
  unfold Oper.wp
  simp [execOp, hop, resolve, invoke, builtin, hs, hx, hrun, Result.andThen]
  exact hK' _ _ (hK g cp w' r1 r2 r3)
end Go.Proofs.YtjfoinikdifgmaaDoor
