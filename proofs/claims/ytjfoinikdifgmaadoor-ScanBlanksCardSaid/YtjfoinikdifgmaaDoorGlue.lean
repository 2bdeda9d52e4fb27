/- Rows of bytes that a call owns, appended to. -/
import Derived.Test.YtjfoinikdifgmaaDoorOwn
import Derived.Deep.DeepAppendWide
namespace Go.Proofs.YtjfoinikdifgmaaDoor
open Go.RowKit
set_option linter.unusedVariables false

def OwnB (w : World) (base : Nat) (v : Value) (l : List UInt8) : Prop := w.ownsRow base 5 1 v l.length (byteVals l)
theorem ownB_empty (w : World) (base : Nat) (hb : base ≤ w.heap.size) : OwnB (w.alloc (.cells #[] 5)) base (.slice (some ⟨w.heap.size, 0, none⟩) 0 0) [] :=
  ⟨rfl, .inr ⟨w.heap.size, 0, #[], rfl, hb, heap_alloc_new w _, Nat.le_refl _, Nat.zero_le _, rfl, rfl⟩⟩
theorem append_bytes (w : World) (base : Nat) (v : Value) (xs : List UInt8) (A : Option Addr) (c : Nat) (ys : List UInt8) (hown : OwnB w base v xs) (hR : ByteRow w A ys) (hl : xs.length + ys.length ≤ 1000000) (hbase : base ≤ w.heap.size) (ty : TypeId) :
    ∃ v' w', (Builtin.append_ #[27, 27] ty #[v, .slice A ys.length c]).run Tryd.prog w = .ok v' w' ∧ OwnB w' base v' (xs ++ ys) ∧ Below base w w' := by
  obtain ⟨i, hi, hz0, hz1, hz2⟩ := info_parts Tryd.infoByte
  unfold OwnB at hown ⊢
  have happ : byteVals (xs ++ ys) = byteVals xs ++ byteVals ys := by simp [byteVals]
  rw [happ, List.length_append]
  cases A with
  | none =>
    have hy : ys = [] := by
      cases ys with
      | nil => rfl
      | cons y r =>
        obtain ⟨b, o, h, _⟩ := hR 0 (by simp)
        cases h
    subst hy
    refine ⟨v, w, ?_, by simpa [byteVals] using hown, Below.refl _ _⟩
    rcases own_form hown with ⟨rfl, h0⟩ | ⟨g, cap, rfl, hc, _⟩
    · exact run_append_nothing w _ _ _ _ i Tryd.underlying27 hi _ 0 0 (Nat.le_refl _) _ (Src.ofNil w Tryd.underlying27 c)
    · exact run_append_nothing w _ _ _ _ i Tryd.underlying27 hi _ _ _ hc _ (Src.ofNil w Tryd.underlying27 c)
  | some a =>
    obtain ⟨v', w', hrun, ho, hg, _⟩ := run_append_own_wide (P := Tryd.prog) w base 27 ty 5 i (.int .u8 0) 1 1 Tryd.underlying27 hi hz0 hz1 hz2 rfl (by omega) v xs.length (byteVals xs) hown a ys.length c (byteVals ys) (by simp [byteVals])
      (fun j u hj => by
        have hjl : j < ys.length := by
          have := (List.getElem?_eq_some_iff.1 hj).1
          simpa [byteVals] using this
        obtain ⟨b', o', e, _, hc⟩ := hR j hjl
        cases e
        rw [Addr.add_lit, hc]
        rw [← hj]
        simp [byteVals, List.getElem?_eq_getElem hjl]) (by simp [byteVals]; intro a _; rfl) (by unfold maxLen; omega) (by omega) hbase
    refine ⟨v', w', hrun, ho, (Below.refl _ _).grown hg hbase (fun k hk => ?_)⟩
    rcases hown.2 with ⟨rfl, _⟩ | ⟨g, cap, cur, rfl, hb, _⟩
    · simp [Value.ownBlock] at hk
    · simp [Value.ownBlock] at hk
      omega
theorem wpList_append_bytes (w : World) {ops : Array Oper} {rest : List Oper} {o : Oper} {a : Act} {Q : Exit → Act → World → Prop}
    (hg : o.guard = none) (s x : Operand) (hop : o.op = Op.call { callee := Callee.builtin Builtin.append, args := #[s, x], argTypes := #[27, 27] })
    (base : Nat) (v : Value) (xs : List UInt8) (A : Option Addr) (c : Nat) (ys : List UInt8) (n : Nat) (hs : a.eval s = v) (hx : a.eval x = .slice A n c) (hn : n = ys.length) (hown : OwnB w base v xs) (hR : ByteRow w A ys) (hl : xs.length + ys.length ≤ 1000000) (hbase : base ≤ w.heap.size)
    (hK : ∀ v' w', OwnB w' base v' (xs ++ ys) → Below base w w' → wpList Tryd.prog ops Q rest (a.put o.dst v') w') :
    wpList Tryd.prog ops Q (o :: rest) a w := by
  refine wpList_plain hg fun K hK' => ?_
  subst hn
  obtain ⟨v', w', hrun, r1, r2⟩ := append_bytes w base v xs A c ys hown hR hl hbase o.type
  unfold Oper.wp
  simp [execOp, hop, resolve, invoke, builtin, hs, hx, hrun, Result.andThen]
  exact hK' _ _ (hK v' w' r1 r2)
theorem byteRow_of_ownB {w : World} {base : Nat} {v : Value} {l : List UInt8} (h : OwnB w base v l) : ∃ A c, v = .slice A l.length c ∧ ByteRow w A l ∧ l.length ≤ c := by
  rcases own_form h with ⟨rfl, h0⟩ | ⟨g, cap, rfl, hc, hm⟩
  · exact ⟨none, 0, by rw [h0], fun k hk => by omega, by omega⟩
  · exact ⟨_, _, rfl, byteRow_of_own h, hc⟩
theorem OwnB.below {w w1 : World} {base : Nat} {v : Value} {l : List UInt8} (h : OwnB w base v l) (hb : Below w.heap.size w w1) : OwnB w1 base v l := own_below h hb
end Go.Proofs.YtjfoinikdifgmaaDoor
