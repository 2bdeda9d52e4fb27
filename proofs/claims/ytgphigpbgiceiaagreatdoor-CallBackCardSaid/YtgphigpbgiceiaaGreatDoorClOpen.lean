/- Arguments that are calls, groups of ranks: opened. -/
import Derived.Test.YtgphigpbgiceiaaGreatDoorCl
import Derived.ProofKit
import Derived.OpenShut
import Derived.Lib.SmallJoins
import Derived.Deep.Slices
namespace Go.Proofs.YtgphigpbgiceiaaGreatDoor
open Go.ChangeShapes Go.WideShapes Go.Deep Go.RowKit Go.Joins
set_option linter.unusedVariables false

section
variable {H : Type} {enc : TypeId × Value → H} {w : World} {base : Nat} {spare : Nat → Bool} {held : Bool}
theorem addr_plain16 {a : Addr} {v : Value} (h : w.cell? a = some v) : a = ⟨a.block, a.off, none⟩ := by
  cases a with
  | mk b o s =>
    cases s with
    | none => rfl
    | some x =>
      simp only [World.cell?] at h
      split at h <;> simp at h
theorem addr_add16 (b o n : Nat) : (⟨b, o, none⟩ : Addr).add n = ⟨b, o + n, none⟩ := by
  unfold Addr.add
  split
  · rename_i h; subst h; rfl
  · rfl
set_option maxRecDepth 100000 in
theorem open_ints16 {fuel : Nat} {v : Value} {x : DataW H × List MemPlace} (h : DataW.trod enc Tryz.prog w base spare held fuel 22 [v] = some x) :
    ∃ (A : Option Addr) (c : Nat) (l : List Int), v = .slice A l.length c ∧ IntRow w A l ∧ (∀ n ∈ l, -9223372036854775808 ≤ n ∧ n ≤ 9223372036854775807) ∧ l.length ≤ c ∧ c ≤ 9223372036854775807 := by
  have c1 : Tryz.prog.cellsOf 3 = 1 := by kernel_rfl
  rcases open_slice1 Tryz.underlying22 c1 h with ⟨hcs, _⟩ | ⟨a, len, cap, m, n, V, D, Pl, hcs, hb, hl, hm, hmm, hx, hi⟩
  · simp only [List.cons.injEq, and_true] at hcs
    exact ⟨none, 0, [], hcs, fun k hk => absurd hk (Nat.not_lt_zero _), by simp, by simp, by omega⟩
  · simp only [List.cons.injEq, and_true] at hcs
    have hlm : len ≤ m := by rw [hmm]; split <;> omega
    have hsome : ∀ i, i < m → ∃ t : Int, (-9223372036854775808 ≤ t ∧ t ≤ 9223372036854775807) ∧ w.cell? (a.add i) = some (.int .i64 t) := fun i him => by
      obtain ⟨hc, ht⟩ := hi i him
      obtain ⟨k, r0, _, w0⟩ := DataW.trod_int Tryz.underlying3 ht
      simp only [List.cons.injEq, and_true] at r0
      exact ⟨k, bounds_i64 w0, by rw [hc, r0]⟩
    let T : Nat → Int := fun i => if hi : i < m then Classical.choose (hsome i hi) else 0
    have hT : ∀ i, i < m → (-9223372036854775808 ≤ T i ∧ T i ≤ 9223372036854775807) ∧ w.cell? (a.add i) = some (.int .i64 (T i)) := fun i him => by
      simp only [T, dif_pos him]
      exact Classical.choose_spec (hsome i him)
    refine ⟨some a, cap, (List.range len).map T, by simpa using hcs, fun k hk => ?_, fun t ht => ?_, by simpa using hl, by unfold maxLen at hm; omega⟩
    · have hk' : k < len := by simpa using hk
      have h1 := (hT k (by omega)).2
      have h00 := (hT 0 (by omega)).2
      have hz : ∀ x : Addr, x.add 0 = x := fun x => rfl
      rw [hz] at h00
      have ha : a = ⟨a.block, a.off, none⟩ := addr_plain16 (v := _) h00
      have hlt : a.block < w.heap.size := World.block_lt_of_cell? w a h00
      refine ⟨a.block, a.off, by rw [← ha], hlt, ?_⟩
      rw [List.getElem_map, List.getElem_range]
      rw [ha, addr_add16] at h1
      exact h1
    · obtain ⟨i, him, rfl⟩ := List.mem_map.1 ht
      exact (hT i (by have := List.mem_range.1 him; omega)).1

set_option maxRecDepth 100000 in
theorem open_call {r : Go.Reach} {b0 : Nat} {v : Value} {d : DataW H} {p : List MemPlace} (hv : Value.okWide Tryz.prog w r b0 24 v) (h : DataW.Trod enc Tryz.prog w base spare held 24 v d p) :
    ∃ (c : Cl) (A : Option Addr) (cap : Nat), v = .agg (clCells c A cap) ∧ c.Ok ∧ IntRow w A c.reqs ∧ c.reqs.length ≤ cap ∧ cap ≤ 9223372036854775807 := by
  have cN : Tryz.prog.cellsOf 24 = 11 := by kernel_rfl
  have zu : Tryz.prog.cellsOf 5 = 1 := by kernel_rfl
  have zi : Tryz.prog.cellsOf 3 = 1 := by kernel_rfl
  have zl : Tryz.prog.cellsOf 2 = 1 := by kernel_rfl
  have zr : Tryz.prog.cellsOf 22 = 1 := by kernel_rfl
  obtain ⟨cs, rfl, hsz⟩ := okWide_struct Tryz.underlying24 hv
  obtain ⟨fuel, hf⟩ := h
  obtain ⟨xs, n, _, hx, hlen, hn, hel⟩ := DataW.trod_struct Tryz.underlying24 hf
  rw [cN] at hsz
  obtain ⟨l0⟩ := cs
  simp only [List.size_toArray] at hsz
  have hxs : xs.length = 11 := hn
  have e0 : DataW.trod enc Tryz.prog w base spare held n 5 ((l0.drop 0).take (Tryz.prog.cellsOf 5)) = xs[0]? := hel 0 _ rfl
  have e1 : DataW.trod enc Tryz.prog w base spare held n 3 ((l0.drop 1).take (Tryz.prog.cellsOf 3)) = xs[1]? := hel 1 _ rfl
  have e2 : DataW.trod enc Tryz.prog w base spare held n 3 ((l0.drop 2).take (Tryz.prog.cellsOf 3)) = xs[2]? := hel 2 _ rfl
  have e3 : DataW.trod enc Tryz.prog w base spare held n 3 ((l0.drop 3).take (Tryz.prog.cellsOf 3)) = xs[3]? := hel 3 _ rfl
  have e4 : DataW.trod enc Tryz.prog w base spare held n 2 ((l0.drop 4).take (Tryz.prog.cellsOf 2)) = xs[4]? := hel 4 _ rfl
  have e5 : DataW.trod enc Tryz.prog w base spare held n 3 ((l0.drop 5).take (Tryz.prog.cellsOf 3)) = xs[5]? := hel 5 _ rfl
  have e6 : DataW.trod enc Tryz.prog w base spare held n 3 ((l0.drop 6).take (Tryz.prog.cellsOf 3)) = xs[6]? := hel 6 _ rfl
  have e7 : DataW.trod enc Tryz.prog w base spare held n 5 ((l0.drop 7).take (Tryz.prog.cellsOf 5)) = xs[7]? := hel 7 _ rfl
  have e8 : DataW.trod enc Tryz.prog w base spare held n 22 ((l0.drop 8).take (Tryz.prog.cellsOf 22)) = xs[8]? := hel 8 _ rfl
  have e9 : DataW.trod enc Tryz.prog w base spare held n 3 ((l0.drop 9).take (Tryz.prog.cellsOf 3)) = xs[9]? := hel 9 _ rfl
  have e10 : DataW.trod enc Tryz.prog w base spare held n 3 ((l0.drop 10).take (Tryz.prog.cellsOf 3)) = xs[10]? := hel 10 _ rfl
  rw [zu] at e0 e7
  rw [zi] at e1 e2 e3 e5 e6 e9 e10
  rw [zl] at e4
  rw [zr] at e8
  rw [List.getElem?_eq_getElem (by omega)] at e0 e1 e2 e3 e4 e5 e6 e7 e8 e9 e10
  match l0, hsz with
  | [a0, a1, a2, a3, a4, a5, a6, a7, a8, a9, a10], _ =>
    simp only [List.drop_zero, List.drop_succ_cons, List.take_succ_cons, List.take_zero] at e0 e1 e2 e3 e4 e5 e6 e7 e8 e9 e10
    obtain ⟨k0, r0, _, w0⟩ := DataW.trod_int Tryz.underlying5 e0
    obtain ⟨k1, r1, _, w1⟩ := DataW.trod_int Tryz.underlying3 e1
    obtain ⟨k2, r2, _, w2⟩ := DataW.trod_int Tryz.underlying3 e2
    obtain ⟨k3, r3, _, w3⟩ := DataW.trod_int Tryz.underlying3 e3
    obtain ⟨k4, r4, _, w4⟩ := DataW.trod_int Tryz.underlying2 e4
    obtain ⟨k5, r5, _, w5⟩ := DataW.trod_int Tryz.underlying3 e5
    obtain ⟨k6, r6, _, w6⟩ := DataW.trod_int Tryz.underlying3 e6
    obtain ⟨k7, r7, _, w7⟩ := DataW.trod_int Tryz.underlying5 e7
    obtain ⟨A, cap, l, r8, hR, hok, hl1, hl2⟩ := open_ints16 e8
    obtain ⟨k9, r9, _, w9⟩ := DataW.trod_int Tryz.underlying3 e9
    obtain ⟨k10, r10, _, w10⟩ := DataW.trod_int Tryz.underlying3 e10
    simp only [List.cons.injEq, and_true] at r0 r1 r2 r3 r4 r5 r6 r7 r9 r10
    subst r0 r1 r2 r3 r4 r5 r6 r7 r8 r9 r10
    exact ⟨⟨k0, k1, k2, k3, k4, k5, k6, k7, l, k9, k10⟩, A, cap, rfl, ⟨bounds_u8 w0, bounds_i64 w1, bounds_i64 w2, bounds_i64 w3, bounds_i64 w4, bounds_i64 w5, bounds_i64 w6, bounds_u8 w7, hok, bounds_i64 w9, bounds_i64 w10⟩, hR, hl1, hl2⟩
set_option maxRecDepth 100000 in
theorem open_group {r : Go.Reach} {b0 : Nat} {v : Value} {d : DataW H} {p : List MemPlace} (hv : Value.okWide Tryz.prog w r b0 26 v) (h : DataW.Trod enc Tryz.prog w base spare held 26 v d p) :
    ∃ (s : ByteArray) (A : Option Addr) (cap : Nat) (l : List Int), v = .agg #[.string s, .slice A l.length cap] ∧ IntRow w A l ∧ (∀ n ∈ l, -9223372036854775808 ≤ n ∧ n ≤ 9223372036854775807) ∧ l.length ≤ cap ∧ cap ≤ 9223372036854775807 := by
  have cN : Tryz.prog.cellsOf 26 = 2 := by kernel_rfl
  have zs : Tryz.prog.cellsOf 9 = 1 := by kernel_rfl
  have zr : Tryz.prog.cellsOf 22 = 1 := by kernel_rfl
  obtain ⟨cs, rfl, hsz⟩ := okWide_struct Tryz.underlying26 hv
  obtain ⟨fuel, hf⟩ := h
  obtain ⟨xs, n, _, hx, hlen, hn, hel⟩ := DataW.trod_struct Tryz.underlying26 hf
  rw [cN] at hsz
  obtain ⟨l0⟩ := cs
  simp only [List.size_toArray] at hsz
  have hxs : xs.length = 2 := hn
  have e0 : DataW.trod enc Tryz.prog w base spare held n 9 ((l0.drop 0).take (Tryz.prog.cellsOf 9)) = xs[0]? := hel 0 _ rfl
  have e1 : DataW.trod enc Tryz.prog w base spare held n 22 ((l0.drop 1).take (Tryz.prog.cellsOf 22)) = xs[1]? := hel 1 _ rfl
  rw [zs] at e0
  rw [zr] at e1
  rw [List.getElem?_eq_getElem (by omega)] at e0 e1
  match l0, hsz with
  | [a0, a1], _ =>
    simp only [List.drop_zero, List.drop_succ_cons, List.take_succ_cons, List.take_zero] at e0 e1
    obtain ⟨s0, r0, _⟩ := DataW.trod_string Tryz.underlying9 e0
    obtain ⟨A, cap, l, r1, hR, hok, hl1, hl2⟩ := open_ints16 e1
    simp only [List.cons.injEq, and_true] at r0
    subst r0 r1
    exact ⟨s0, A, cap, l, rfl, hR, hok, hl1, hl2⟩
end
end Go.Proofs.YtgphigpbgiceiaaGreatDoor
