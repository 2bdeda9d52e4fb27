/- The walks of code.May, dispatcherlaw05.Great, row. -/
import Derived.Test.YtaanhkepimjelaaDoorCode8
import Derived.Deep.AppendLies
import Derived.Deep.Onto
import Derived.OwnWalk
import Derived.WalkSpells
namespace Go.Proofs.YtaanhkepimjelaaDoor
open Go.RowKit Go.Sort
set_option linter.unusedVariables false
set_option linter.unusedSimpArgs false

noncomputable def Cp.mayB (p : Cp) : Bool := @decide p.May (Classical.propDecidable _)
theorem Cp.mayB_true {p : Cp} (h : p.May) : p.mayB = true := by unfold Cp.mayB; simpa using h
theorem Cp.mayB_false {p : Cp} (h : ¬ p.May) : p.mayB = false := by unfold Cp.mayB; simpa using h
theorem Cp.mayB_iff {p : Cp} : p.mayB = true ↔ p.May := by unfold Cp.mayB; simp

set_option maxHeartbeats 1000000 in
set_option maxRecDepth 100000 in
theorem may_any (A B : Option Addr) (cA cB : Nat) (p : Cp) (w : World) (hI : CpIn w A cA B cB p) :
    Calls Tryd.prog 14 #[.agg #[.slice A p.code.length cA, .int .i64 p.vars, .slice B p.arrays.length cB]] w fun e w' => e = .returned (.bool p.mayB) ∧ Below w.heap.size w w' := by
  have hbn : Below w.heap.size w (w.alloc (.cells #[.slice A p.code.length cA, .int .i64 p.vars, .slice B p.arrays.length cB] 25)) := (Below.refl _ _).alloc (Nat.le_refl _) _
  have hH := heights_any A B cA cB p _ (hI.below hbn)
  have HH := Lib.hid hH
  clear hH hI
  go_enter Tryd.func14, Tryd.ntmps14
  go_wp2_with fail
  generalize (w.alloc (.cells #[.slice A p.code.length cA, .int .i64 p.vars, .slice B p.arrays.length cB] 25)) = w1 at *
  refine HH.out.mono ?_
  rintro e w2 ⟨h, hb2⟩
  have HB := Lib.hid (hbn.trans (hb2.mono hbn.size))
  clear HH hb2 hbn
  rcases h with ⟨b, l, hw, ht, rfl, _, _⟩ | ⟨hbad, rfl⟩
  · have HM := Lib.hid (Cp.mayB_true ⟨hw, l, ht⟩)
    clear hw ht
    go_wp2_with fail
    go_ret
    exact ⟨ret_bool HM.out.symm, HB.out⟩
  · have HM := Lib.hid (Cp.mayB_false (Cp.may_not hbad))
    clear hbad
    go_wp2_with fail
    go_ret
    exact ⟨ret_bool HM.out.symm, HB.out⟩

set_option maxHeartbeats 1000000 in
theorem great_any (A B : Option Addr) (cA cB lc la : Nat) (v : Int) (w : World) :
    Calls Tryd.prog 10 #[.agg #[.slice A lc cA, .int .i64 v, .slice B la cB]] w fun e w' => e = .returned (.bool (decide (400 < lc) || decide (100 < la))) ∧ Gr w w' := by
  by_cases h : 400 < lc
  all_goals
    go_enter Tryd.func10, Tryd.ntmps10
    go_wp2_with fail
    go_ret
    refine ⟨ret_bool ?_, ?_⟩
    · first | (simp [h]; done) | (simp [h]; omega) | (rw [Bool.eq_iff_iff]; simp [h]; omega)
    · repeat (first | exact Gr.refl _ | apply Gr.drewN | apply Gr.drew | apply Gr.alloc)

/-- Instructions as cells. -/
def insCells (l : List Ins) : List Value := l.flatMap fun i => [Value.int .u8 i.op, Value.int .i64 i.n]
theorem insCells_nil : insCells [] = [] := rfl
theorem insCells_snoc (l : List Ins) (i : Ins) : insCells (l ++ [i]) = insCells l ++ [Value.int .u8 i.op, Value.int .i64 i.n] := by simp [insCells]
theorem insCells_length : ∀ l : List Ins, (insCells l).length = l.length * 2
  | [] => rfl
  | i :: l => by
    have e : insCells (i :: l) = [Value.int .u8 i.op, Value.int .i64 i.n] ++ insCells l := rfl
    rw [e, List.length_append, insCells_length l]
    simp only [List.length_cons, List.length_nil]
    omega
theorem insCells_get : ∀ (l : List Ins) (k : Nat) (hk : k < l.length), (insCells l)[k * 2]? = some (.int .u8 l[k].op) ∧ (insCells l)[k * 2 + 1]? = some (.int .i64 l[k].n)
  | i :: l, 0, _ => ⟨rfl, rfl⟩
  | i :: l, k + 1, hk => by
    have e : insCells (i :: l) = [Value.int .u8 i.op, Value.int .i64 i.n] ++ insCells l := rfl
    have ih := insCells_get l k (by simpa using hk)
    rw [e, List.getElem?_append_right (by simp; omega), List.getElem?_append_right (by simp; omega)]
    have e1 : (k + 1) * 2 - [Value.int .u8 i.op, Value.int .i64 i.n].length = k * 2 := by simp; omega
    have e2 : (k + 1) * 2 + 1 - [Value.int .u8 i.op, Value.int .i64 i.n].length = k * 2 + 1 := by simp; omega
    rw [e1, e2]
    simpa using ih
theorem own_shape {w : World} {base : Nat} {e : TypeId} {size n : Nat} {v : Value} {xs : List Value} (h : w.ownsRow base e size v n xs) : ∃ A c, v = .slice A n c ∧ n ≤ c ∧ c ≤ 9223372036854775807 ∧ (∀ a, A = some a → ∃ g, a = ⟨g, 0, none⟩ ∧ base ≤ g ∧ g < w.heap.size) ∧ (A = none → n = 0 ∧ c = 0) := by
  rcases h.2 with ⟨rfl, h0⟩ | ⟨g, cap, cur, rfl, hb, hg, h1, h2, _⟩
  · subst h0
    exact ⟨none, 0, rfl, by omega, by omega, fun a h => (by cases h), fun _ => ⟨rfl, rfl⟩⟩
  · refine ⟨_, _, rfl, h1, by unfold maxLen at h2; omega, fun a h => ?_, fun h => by cases h⟩
    cases h
    exact ⟨g, rfl, hb, (Array.getElem?_eq_some_iff.1 hg).1⟩
theorem insRow_of_own {w : World} {base c : Nat} {A : Option Addr} {l : List Ins} (h : w.ownsRow base 33 2 (.slice A l.length c) l.length (insCells l)) : InsRow w A l := fun k hk => by
  obtain ⟨A', c', e, _, _, h1, h2⟩ := own_shape h
  cases e
  cases A with
  | none => have := (h2 rfl).1; omega
  | some a =>
    obtain ⟨g, rfl, _, hlt⟩ := h1 a rfl
    have hg := insCells_get l k hk
    refine ⟨g, 0, rfl, hlt, ?_, ?_⟩
    · rw [Nat.zero_add, h.cellAt (k * 2) (by omega)]; exact hg.1
    · rw [Nat.zero_add, h.cellAt (k * 2 + 1) (by omega)]; exact hg.2
theorem intRow_of_own {w : World} {base c : Nat} {A : Option Addr} {l : List Int} (h : w.ownsRow base 3 1 (.slice A l.length c) l.length (l.map (Value.int .i64))) : IntRow w A l := fun k hk => by
  obtain ⟨A', c', e, _, _, h1, h2⟩ := own_shape h
  cases e
  cases A with
  | none => have := (h2 rfl).1; omega
  | some a =>
    obtain ⟨g, rfl, _, hlt⟩ := h1 a rfl
    refine ⟨g, 0, rfl, hlt, ?_⟩
    rw [Nat.zero_add, h.cellAt k (by omega)]
    simp [List.getElem?_eq_getElem hk]
theorem own_below5 {w w1 : World} {base : Nat} {e : TypeId} {size n : Nat} {v : Value} {xs : List Value} (h : w.ownsRow base e size v n xs) (hb : Below w.heap.size w w1) : w1.ownsRow base e size v n xs :=
  h.kept (row := none) ⟨hb.os, hb.tape, hb.output, hb.size, fun i hi _ => hb.block i hi⟩ (by cases v.ownBlock <;> simp)
theorem below_grown5 {B : Nat} {w0 w w' : World} {row : Option Nat} (hb : Below B w0 w) (hg : w.grownBy w' row) (hB : B ≤ w.heap.size) (hrow : ∀ g, row = some g → B ≤ g) : Below B w0 w' :=
  hb.trans ⟨hg.os, hg.tape, hg.output, hg.size, fun k hk => hg.block k (Nat.lt_of_lt_of_le hk hB) (fun e => by have := hrow k e.symm; omega)⟩
theorem Tryd.infoInstr : (Tryd.prog.info? 33).map (fun i => (i.zero, i.size, i.bytes)) = some (some (.agg #[.int .u8 0, .int .i64 0]), 2, 16) := by kernel_rfl
end Go.Proofs.YtaanhkepimjelaaDoor
