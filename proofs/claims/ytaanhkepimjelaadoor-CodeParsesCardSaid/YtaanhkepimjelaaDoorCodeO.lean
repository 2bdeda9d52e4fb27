/- Arguments that are programs of instructions, rows of truths, opened. -/
import Derived.Test.YtaanhkepimjelaaDoorCode6
import Derived.ProofKit
import Derived.OpenShut
import Derived.Lib.SmallJoins
import Derived.Deep.Slices
namespace Go.Proofs.YtaanhkepimjelaaDoor
open Go.ChangeShapes Go.WideShapes Go.Deep Go.RowKit Go.Joins
set_option linter.unusedVariables false

section
variable {H : Type} {enc : TypeId × Value → H} {w : World} {base : Nat} {spare : Nat → Bool} {held : Bool}
theorem addr_plain5 {a : Addr} {v : Value} (h : w.cell? a = some v) : a = ⟨a.block, a.off, none⟩ := by
  cases a with
  | mk b o s =>
    cases s with
    | none => rfl
    | some x =>
      simp only [World.cell?] at h
      split at h <;> simp at h
theorem addr_add5 (b o n : Nat) : (⟨b, o, none⟩ : Addr).add n = ⟨b, o + n, none⟩ := by
  unfold Addr.add
  split
  · rename_i h; subst h; rfl
  · rfl
set_option maxRecDepth 100000 in
theorem ins_of_trod {fuel : Nat} {cs : List Value} {x : DataW H × List MemPlace} (h : DataW.trod enc Tryd.prog w base spare held fuel 33 cs = some x) : ∃ i : Ins, cs = [.int .u8 i.op, .int .i64 i.n] ∧ i.Ok := by
  obtain ⟨xs, n, rfl, hx, hlen, hn, hel⟩ := DataW.trod_struct Tryd.underlying33 h
  have c2 : Tryd.prog.cellsOf 33 = 2 := by kernel_rfl
  have z1 : Tryd.prog.cellsOf 5 = 1 := by kernel_rfl
  have z2 : Tryd.prog.cellsOf 2 = 1 := by kernel_rfl
  rw [c2] at hlen
  have e0 : DataW.trod enc Tryd.prog w base spare held n 5 ((cs.drop 0).take (Tryd.prog.cellsOf 5)) = xs[0]? := hel 0 _ rfl
  have e1 : DataW.trod enc Tryd.prog w base spare held n 2 ((cs.drop 1).take (Tryd.prog.cellsOf 2)) = xs[1]? := hel 1 _ rfl
  rw [z1] at e0
  rw [z2] at e1
  have hxs : xs.length = 2 := hn
  rw [List.getElem?_eq_getElem (by omega)] at e0 e1
  match cs, hlen with
  | [a, b], _ =>
    obtain ⟨k, r0, _, w0⟩ := DataW.trod_int Tryd.underlying5 e0
    obtain ⟨m, r1, _, w1⟩ := DataW.trod_int Tryd.underlying2 e1
    simp only [List.drop_zero, List.drop_succ_cons, List.take_succ_cons, List.take_zero, List.cons.injEq, and_true] at r0 r1
    subst r0 r1
    exact ⟨⟨k, m⟩, rfl, bounds_u8 w0, bounds_i64 w1⟩
set_option maxRecDepth 100000 in
theorem open_ins {fuel : Nat} {v : Value} {x : DataW H × List MemPlace} (h : DataW.trod enc Tryd.prog w base spare held fuel 22 [v] = some x) :
    ∃ (A : Option Addr) (c : Nat) (l : List Ins), v = .slice A l.length c ∧ InsRow w A l ∧ (∀ i ∈ l, i.Ok) ∧ l.length ≤ c ∧ c ≤ 9223372036854775807 := by
  have c2 : Tryd.prog.cellsOf 33 = 2 := by kernel_rfl
  rcases open_slice Tryd.underlying22 h with ⟨hcs, _⟩ | ⟨a, len, cap, m, n, D, Pl, hcs, hb, hl, hm, hmm, hx, hi⟩
  · simp only [List.cons.injEq, and_true] at hcs
    exact ⟨none, 0, [], hcs, fun k hk => absurd hk (Nat.not_lt_zero _), by simp, by simp, by omega⟩
  · simp only [List.cons.injEq, and_true] at hcs
    have hlm : len ≤ m := by rw [hmm]; split <;> omega
    rw [c2] at hi
    have hsome : ∀ i, i < m → ∃ t : Ins, t.Ok ∧ ∀ j, j < 2 → w.cell? ((a.add (i * 2)).add j) = [Value.int .u8 t.op, .int .i64 t.n][j]? := fun i him => by
      obtain ⟨cs', hc, ht⟩ := hi i him
      obtain ⟨t, rfl, hok⟩ := ins_of_trod ht
      obtain ⟨_, _, hat⟩ := World.cells?_some hc
      exact ⟨t, hok, hat⟩
    let T : Nat → Ins := fun i => if hi : i < m then Classical.choose (hsome i hi) else ⟨0, 0⟩
    have hT : ∀ i, i < m → (T i).Ok ∧ ∀ j, j < 2 → w.cell? ((a.add (i * 2)).add j) = [Value.int .u8 (T i).op, .int .i64 (T i).n][j]? := fun i him => by
      simp only [T, dif_pos him]
      exact Classical.choose_spec (hsome i him)
    refine ⟨some a, cap, (List.range len).map T, by simpa using hcs, fun k hk => ?_, fun t ht => ?_, by simpa using hl, by unfold maxLen at hm; omega⟩
    · have hk' : k < len := by simpa using hk
      have h1 := (hT k (by omega)).2
      have h00 := (hT 0 (by omega)).2 0 (by omega)
      rw [Nat.zero_mul] at h00
      have hz : ∀ x : Addr, x.add 0 = x := fun x => rfl
      rw [hz, hz] at h00
      have ha : a = ⟨a.block, a.off, none⟩ := addr_plain5 (v := _) h00
      have hadd : ∀ j, (a.add (k * 2)).add j = ⟨a.block, a.off + k * 2 + j, none⟩ := fun j => by
        rw [ha, addr_add5, addr_add5]
      have hlt : a.block < w.heap.size := World.block_lt_of_cell? w a h00
      refine ⟨a.block, a.off, by rw [← ha], hlt, ?_⟩
      rw [List.getElem_map, List.getElem_range]
      refine ⟨?_, ?_⟩
      · have := h1 0 (by omega); rw [hadd] at this; exact this
      · have := h1 1 (by omega); rw [hadd] at this; exact this
    · obtain ⟨i, him, rfl⟩ := List.mem_map.1 ht
      exact (hT i (by have := List.mem_range.1 him; omega)).1
set_option maxRecDepth 100000 in
theorem open_ints5 {fuel : Nat} {v : Value} {x : DataW H × List MemPlace} (h : DataW.trod enc Tryd.prog w base spare held fuel 23 [v] = some x) :
    ∃ (A : Option Addr) (c : Nat) (l : List Int), v = .slice A l.length c ∧ IntRow w A l ∧ (∀ n ∈ l, -9223372036854775808 ≤ n ∧ n ≤ 9223372036854775807) ∧ l.length ≤ c ∧ c ≤ 9223372036854775807 := by
  have c1 : Tryd.prog.cellsOf 3 = 1 := by kernel_rfl
  rcases open_slice1 Tryd.underlying23 c1 h with ⟨hcs, _⟩ | ⟨a, len, cap, m, n, V, D, Pl, hcs, hb, hl, hm, hmm, hx, hi⟩
  · simp only [List.cons.injEq, and_true] at hcs
    exact ⟨none, 0, [], hcs, fun k hk => absurd hk (Nat.not_lt_zero _), by simp, by simp, by omega⟩
  · simp only [List.cons.injEq, and_true] at hcs
    have hlm : len ≤ m := by rw [hmm]; split <;> omega
    have hsome : ∀ i, i < m → ∃ t : Int, (-9223372036854775808 ≤ t ∧ t ≤ 9223372036854775807) ∧ w.cell? (a.add i) = some (.int .i64 t) := fun i him => by
      obtain ⟨hc, ht⟩ := hi i him
      obtain ⟨k, r0, _, w0⟩ := DataW.trod_int Tryd.underlying3 ht
      simp only [List.cons.injEq, and_true] at r0
      exact ⟨k, bounds_i64 w0, by rw [hc, r0]⟩
    let T : Nat → Int := fun i => if hi : i < m then Classical.choose (hsome i hi) else 0
    have hT : ∀ i, i < m → (-9223372036854775808 ≤ T i ∧ T i ≤ 9223372036854775807) ∧ w.cell? (a.add i) = some (.int .i64 (T i)) := fun i him => by
      simp only [T, dif_pos him]
      exact Classical.choose_spec (hsome i him)
    refine ⟨some a, cap, (List.range len).map T, by simpa using hcs, fun k hk => ?_, fun t ht => ?_, by simpa using hl, by unfold maxLen at hm; omega⟩
    · have hk' : k < len := by simpa using hk
      have h1 := (hT k (by omega)).2
      have h00 := (hT 0 (by omega)).2
      have hz : ∀ x : Addr, x.add 0 = x := fun x => rfl
      rw [hz] at h00
      have ha : a = ⟨a.block, a.off, none⟩ := addr_plain5 (v := _) h00
      have hlt : a.block < w.heap.size := World.block_lt_of_cell? w a h00
      refine ⟨a.block, a.off, by rw [← ha], hlt, ?_⟩
      rw [List.getElem_map, List.getElem_range]
      rw [ha, addr_add5] at h1
      exact h1
    · obtain ⟨i, him, rfl⟩ := List.mem_map.1 ht
      exact (hT i (by have := List.mem_range.1 him; omega)).1
/-- What a slice of truths reads as. -/
def BoolRow (w : World) (A : Option Addr) (l : List Bool) : Prop :=
  ∀ k (hk : k < l.length), ∃ b o, A = some ⟨b, o, none⟩ ∧ b < w.heap.size ∧ w.cell? ⟨b, o + k, none⟩ = some (.bool l[k])
theorem BoolRow.below {w w' : World} {A : Option Addr} {l : List Bool} (h : BoolRow w A l) (hb : Below w.heap.size w w') : BoolRow w' A l := fun k hk => by
  obtain ⟨b, o, e, hlt, h1⟩ := h k hk
  exact ⟨b, o, e, Nat.lt_of_lt_of_le hlt hb.size, cell_later hb h1⟩
set_option maxRecDepth 100000 in
theorem open_bools5 {fuel : Nat} {v : Value} {x : DataW H × List MemPlace} (h : DataW.trod enc Tryd.prog w base spare held fuel 26 [v] = some x) :
    ∃ (A : Option Addr) (c : Nat) (l : List Bool), v = .slice A l.length c ∧ BoolRow w A l ∧ l.length ≤ c ∧ c ≤ 9223372036854775807 := by
  have c1 : Tryd.prog.cellsOf 4 = 1 := by kernel_rfl
  rcases open_slice1 Tryd.underlying26 c1 h with ⟨hcs, _⟩ | ⟨a, len, cap, m, n, V, D, Pl, hcs, hb, hl, hm, hmm, hx, hi⟩
  · simp only [List.cons.injEq, and_true] at hcs
    exact ⟨none, 0, [], hcs, fun k hk => absurd hk (Nat.not_lt_zero _), by simp, by omega⟩
  · simp only [List.cons.injEq, and_true] at hcs
    have hlm : len ≤ m := by rw [hmm]; split <;> omega
    have hsome : ∀ i, i < m → ∃ t : Bool, w.cell? (a.add i) = some (.bool t) := fun i him => by
      obtain ⟨hc, ht⟩ := hi i him
      obtain ⟨k, r0, _⟩ := DataW.trod_bool Tryd.underlying4 ht
      simp only [List.cons.injEq, and_true] at r0
      exact ⟨k, by rw [hc, r0]⟩
    let T : Nat → Bool := fun i => if hi : i < m then Classical.choose (hsome i hi) else false
    have hT : ∀ i, i < m → w.cell? (a.add i) = some (.bool (T i)) := fun i him => by
      simp only [T, dif_pos him]
      exact Classical.choose_spec (hsome i him)
    refine ⟨some a, cap, (List.range len).map T, by simpa using hcs, fun k hk => ?_, by simpa using hl, by unfold maxLen at hm; omega⟩
    have hk' : k < len := by simpa using hk
    have h1 := hT k (by omega)
    have h00 := hT 0 (by omega)
    have hz : ∀ x : Addr, x.add 0 = x := fun x => rfl
    rw [hz] at h00
    have ha : a = ⟨a.block, a.off, none⟩ := addr_plain5 (v := _) h00
    have hlt : a.block < w.heap.size := World.block_lt_of_cell? w a h00
    refine ⟨a.block, a.off, by rw [← ha], hlt, ?_⟩
    rw [List.getElem_map, List.getElem_range]
    rw [ha, addr_add5] at h1
    exact h1
set_option maxRecDepth 100000 in
theorem open_prog5 {r : Go.Reach} {b0 : Nat} {v : Value} {d : DataW H} {p : List MemPlace} (hv : Value.okWide Tryd.prog w r b0 25 v) (h : DataW.Trod enc Tryd.prog w base spare held 25 v d p) :
    ∃ (A B : Option Addr) (cA cB : Nat) (q : Cp), v = .agg #[.slice A q.code.length cA, .int .i64 q.vars, .slice B q.arrays.length cB] ∧ CpIn w A cA B cB q := by
  have cells : Tryd.prog.cellsOf 25 = 3 := by kernel_rfl
  obtain ⟨c0, c1, c2, y0, y1, y2, m, rfl, _, _, h0, h1, h2⟩ := open_agg3 Tryd.underlying25 (by kernel_rfl) cells hv h
  obtain ⟨A, cA, l, rfl, hR, hok, hl1, hl2⟩ := open_ins h0
  obtain ⟨n, r1, _, w1⟩ := DataW.trod_int Tryd.underlying3 h1
  simp only [List.cons.injEq, and_true] at r1
  subst r1
  obtain ⟨B, cB, a, rfl, hR2, hok2, hl3, hl4⟩ := open_ints5 h2
  exact ⟨A, B, cA, cB, ⟨l, n, a⟩, rfl, hR, hR2, hok, hok2, bounds_i64 w1, ⟨hl1, hl2⟩, ⟨hl3, hl4⟩⟩
end
end Go.Proofs.YtaanhkepimjelaaDoor
