/- Own walks of strings.Builder's WriteString and String at a builder of the call's own. -/
import Derived.Test.YtgphigpbgiceiaaGreatDoorBuilder
import Derived.Lib.Join
namespace Go.Proofs.YtgphigpbgiceiaaGreatDoor
open Go.RowKit
set_option linter.unusedVariables false
set_option linter.unusedSimpArgs false

/-- A used builder. -/
abbrev BA (B b : Nat) (bs : List Value) (w : World) : Prop := Lib.BuilderAt 91 5 B b (.pointer (some ⟨b, 0, none⟩)) bs w

set_option maxHeartbeats 2000000 in
set_option maxRecDepth 100000 in
theorem writeString_ba (B b : Nat) (bs : List Value) (s : ByteArray) (w : World) (h : BA B b bs w) (hlen : bs.length + s.size ≤ 140737488355328) (hBw : B ≤ w.heap.size) :
    Calls Tryz.prog 53 #[.pointer (some ⟨b, 0, none⟩), .string s] w fun e w' => e = .returned (.tuple #[.int .i64 s.size, .nilIface]) ∧ (BA B b (bs ++ Lib.strCells s) w' ∧ Below B w w') := by
  obtain ⟨i0, hi, hz0, hz1, hz2⟩ := info_parts Tryz.infoU8
  have HC := Lib.hid (copyCheck_used b w h.cell0)
  obtain ⟨hB, v, hbk, hown, hne⟩ := h
  go_enter Tryz.func53, Tryz.ntmps53
  go_wp2_with (go_at_call 76; refine HC.out.mono ?_)
  rintro e w1 ⟨rfl, rfl⟩
  have c0 : w1.cell? ⟨b, 0, none⟩ = some (.pointer (some ⟨b, 0, none⟩)) := by rw [Lib.cell_of_heap hbk]; rfl
  have c1 : w1.cell? ⟨b, 1, none⟩ = some v := by rw [Lib.cell_of_heap hbk]; rfl
  go_wp2_with (at_builtin; refine Lib.wpList_append_own_string _ rfl _ _ 85 9 rfl B 5 i0 Tryz.underlying85 Tryz.underlying9 hi hz0 hz1 hz2 _ _ _ rfl hown s rfl ?c3 ?c4 ?c5 ?_)
  case c3 => unfold maxLen; omega
  case c4 => omega
  case c5 => omega
  intro v' w2 hown' hgrow hnil
  clear hnil
  have hlt : b < w1.heap.size := (Array.getElem?_eq_some_iff.1 hbk).1
  have hb2 : w2.heap[b]? = some (.cells #[.pointer (some ⟨b, 0, none⟩), v] 91 (0, 0)) := by
    rw [hgrow.block b hlt (fun e => hne e.symm)]
    exact hbk
  have d0 : w2.cell? ⟨b, 0, none⟩ = some (.pointer (some ⟨b, 0, none⟩)) := by rw [Lib.cell_of_heap hb2]; rfl
  have d1 : w2.cell? ⟨b, 1, none⟩ = some v := by rw [Lib.cell_of_heap hb2]; rfl
  have f1 : w2.frozen? ⟨b, 1, none⟩ = false := Lib.frozen_of_heap hb2 1
  obtain ⟨ao, n', cap, rfl⟩ : ∃ ao n' cap, v' = .slice ao n' cap := by
    rcases hown'.2 with ⟨hv, _⟩ | ⟨g, cap, cur, hv, _⟩
    · exact ⟨_, _, _, hv⟩
    · exact ⟨_, _, _, hv⟩
  go_wp2
  go_ret2
  refine ⟨rfl, ?_, ?_⟩
  · exact Lib.BuilderAt.put hB hb2 (bs' := bs ++ Lib.strCells s) (by simpa [Lib.strCells_length] using hown') (by decide)
  · exact ((Below.refl B w1).grown hgrow hBw (own_low hown)).setCell (p := ⟨b, 1, none⟩) hB _

/-- The whole, where it is not empty. -/
theorem string_ba (B b : Nat) (l : List UInt8) (w : World) (h : BA B b (Lib.byteCells l) w) (hl : l ≠ []) :
    Calls Tryz.prog 54 #[.pointer (some ⟨b, 0, none⟩)] w fun e w' => e = .returned (.string ⟨l.toArray⟩) ∧ Below B w w' := by
  obtain ⟨hB, v, hbk, hown, hne⟩ := h
  exact string_buf 91 B b [] l w (.inr ⟨hB, v, hbk, hown, hne, fun h0 => absurd (by simpa [Lib.byteCells] using h0) hl⟩)

end Go.Proofs.YtgphigpbgiceiaaGreatDoor
