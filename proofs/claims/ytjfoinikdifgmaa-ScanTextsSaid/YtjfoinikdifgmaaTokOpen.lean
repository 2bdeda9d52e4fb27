/- An argument that is a slice of words (scan.Token), opened. -/
import Derived.Test.YtjfoinikdifgmaaTok
import Derived.ProofKit
import Derived.OpenShut
import Derived.Deep.Slices
namespace Go.Proofs.Ytjfoinikdifgmaa
open Go.ChangeShapes Go.WideShapes Go.Deep Go.RowKit

section
variable {H : Type} {enc : TypeId × Value → H} {w : World} {base : Nat} {spare : Nat → Bool} {held : Bool}
theorem tok_of_trod {fuel : Nat} {cs : List Value} {x : DataW H × List MemPlace} (h : DataW.trod enc Try.prog w base spare held fuel 24 cs = some x) : ∃ t : Tok, cs = t.cells ∧ t.Ok := by
  obtain ⟨xs, n, rfl, hx, hlen, hn, hel⟩ := DataW.trod_struct Try.underlying24 h
  have c5 : Try.prog.cellsOf 24 = 5 := by kernel_rfl
  have z1 : Try.prog.cellsOf 5 = 1 := by kernel_rfl
  have z2 : Try.prog.cellsOf 9 = 1 := by kernel_rfl
  have z3 : Try.prog.cellsOf 2 = 1 := by kernel_rfl
  have z4 : Try.prog.cellsOf 3 = 1 := by kernel_rfl
  rw [c5] at hlen
  have e0 : DataW.trod enc Try.prog w base spare held n 5 ((cs.drop 0).take (Try.prog.cellsOf 5)) = xs[0]? := hel 0 _ rfl
  have e1 : DataW.trod enc Try.prog w base spare held n 9 ((cs.drop 1).take (Try.prog.cellsOf 9)) = xs[1]? := hel 1 _ rfl
  have e2 : DataW.trod enc Try.prog w base spare held n 2 ((cs.drop 2).take (Try.prog.cellsOf 2)) = xs[2]? := hel 2 _ rfl
  have e3 : DataW.trod enc Try.prog w base spare held n 3 ((cs.drop 3).take (Try.prog.cellsOf 3)) = xs[3]? := hel 3 _ rfl
  have e4 : DataW.trod enc Try.prog w base spare held n 3 ((cs.drop 4).take (Try.prog.cellsOf 3)) = xs[4]? := hel 4 _ rfl
  rw [z1] at e0
  rw [z2] at e1
  rw [z3] at e2
  rw [z4] at e3 e4
  have hxs : xs.length = 5 := hn
  rw [List.getElem?_eq_getElem (by omega)] at e0 e1 e2 e3 e4
  match cs, hlen with
  | [a, b, c, d, f], _ =>
    obtain ⟨k, r0, _, w0⟩ := DataW.trod_int Try.underlying5 e0
    obtain ⟨s, r1, _, w1⟩ := DataW.trod_string Try.underlying9 e1
    obtain ⟨m, r2, _, w2⟩ := DataW.trod_int Try.underlying2 e2
    obtain ⟨p, r3, _, w3⟩ := DataW.trod_int Try.underlying3 e3
    obtain ⟨q, r4, _, w4⟩ := DataW.trod_int Try.underlying3 e4
    simp only [List.drop_zero, List.drop_succ_cons, List.take_succ_cons, List.take_zero, List.cons.injEq, and_true] at r0 r1 r2 r3 r4
    subst r0 r1 r2 r3 r4
    exact ⟨⟨k, s, m, p, q⟩, rfl, ⟨bounds_u8 w0, w1, bounds_i64 w2, bounds_i64 w3, bounds_i64 w4⟩⟩

theorem addr_plain {a : Addr} {v : Value} (h : w.cell? a = some v) : a = ⟨a.block, a.off, none⟩ := by
  cases a with
  | mk b o s =>
    cases s with
    | none => rfl
    | some x =>
      simp only [World.cell?] at h
      split at h <;> simp at h

theorem addr_add (b o n : Nat) : (⟨b, o, none⟩ : Addr).add n = ⟨b, o + n, none⟩ := by
  unfold Addr.add
  split
  · rename_i h; subst h; rfl
  · rfl

theorem open_toks {fuel : Nat} {A : Option Addr} {len cap : Nat} {x : DataW H × List MemPlace} (h : DataW.trod enc Try.prog w base (fun _ => spare 0) held fuel 22 [.slice A len cap] = some x) :
    ∃ l : List Tok, l.length = len ∧ TokRow w A l ∧ (∀ t ∈ l, t.Ok) ∧ len ≤ 9223372036854775807 := by
  have c5 : Try.prog.cellsOf 24 = 5 := by kernel_rfl
  rcases open_slice Try.underlying22 h with ⟨hcs, _⟩ | ⟨a, len', cap', m, n, D, Pl, hcs, hb, hl, hm, hmm, hx, hi⟩
  · simp only [List.cons.injEq, Value.slice.injEq, and_true] at hcs
    obtain ⟨rfl, rfl, rfl⟩ := hcs
    exact ⟨[], rfl, fun k hk => absurd hk (Nat.not_lt_zero _), by simp, by omega⟩
  · simp only [List.cons.injEq, Value.slice.injEq, and_true] at hcs
    obtain ⟨rfl, rfl, rfl⟩ := hcs
    have hlm : len ≤ m := by rw [hmm]; split <;> omega
    rw [c5] at hi
    have hsome : ∀ i, i < m → ∃ t : Tok, t.Ok ∧ ∀ j, j < 5 → w.cell? ((a.add (i * 5)).add j) = t.cells[j]? := fun i him => by
      obtain ⟨cs', hc, ht⟩ := hi i him
      obtain ⟨t, rfl, hok⟩ := tok_of_trod ht
      obtain ⟨_, _, hat⟩ := World.cells?_some hc
      exact ⟨t, hok, hat⟩
    let T : Nat → Tok := fun i => if hi : i < m then Classical.choose (hsome i hi) else ⟨0, .empty, 0, 0, 0⟩
    have hT : ∀ i, i < m → (T i).Ok ∧ ∀ j, j < 5 → w.cell? ((a.add (i * 5)).add j) = (T i).cells[j]? := fun i him => by
      simp only [T, dif_pos him]
      exact Classical.choose_spec (hsome i him)
    refine ⟨(List.range len).map T, by simp, fun k hk => ?_, fun t ht => ?_, by unfold maxLen at hm; omega⟩
    · have hk' : k < len := by simpa using hk
      have h1 := (hT k (by omega)).2
      have h00 := (hT 0 (by omega)).2 0 (by omega)
      rw [Nat.zero_mul] at h00
      have hz : ∀ x : Addr, x.add 0 = x := fun x => rfl
      rw [hz, hz] at h00
      have ha : a = ⟨a.block, a.off, none⟩ := addr_plain (v := _) h00
      have hadd : ∀ j, (a.add (k * 5)).add j = ⟨a.block, a.off + k * 5 + j, none⟩ := fun j => by
        rw [ha, addr_add, addr_add]
      have hlt : a.block < w.heap.size := World.block_lt_of_cell? w a h00
      refine ⟨a.block, a.off, by rw [← ha], hlt, ?_⟩
      rw [List.getElem_map, List.getElem_range]
      refine ⟨?_, ?_, ?_, ?_, ?_⟩
      · have := h1 0 (by omega); rw [hadd] at this; exact this
      · have := h1 1 (by omega); rw [hadd] at this; exact this
      · have := h1 2 (by omega); rw [hadd] at this; exact this
      · have := h1 3 (by omega); rw [hadd] at this; exact this
      · have := h1 4 (by omega); rw [hadd] at this; exact this
    · obtain ⟨i, him, rfl⟩ := List.mem_map.1 ht
      exact (hT i (by have := List.mem_range.1 him; omega)).1
end
end Go.Proofs.Ytjfoinikdifgmaa
