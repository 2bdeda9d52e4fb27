/- The walk of call.set. -/
import Derived.Test.YtgphigpbgiceiaaGreatDoorCl
namespace Go.Proofs.YtgphigpbgiceiaaGreatDoor
open Go.RowKit Go.Sort
set_option linter.unusedVariables false
set_option linter.unusedSimpArgs false

theorem ClBlk.set {w : World} {b : Nat} {c d : Cl} {A : Option Addr} {cap : Nat} (h : ClBlk w b c A cap) (j : Nat) (v : Value) (hd : (clCells c A cap).setIfInBounds j v = clCells d A cap) : ClBlk (w.setCell ⟨b, j, none⟩ v) b d A cap := by
  unfold ClBlk
  rw [heap_setCell_same w b j _ _ _ h, hd]
theorem wrap_u8_mod (n : Int) : IntKind.u8.wrap n = n % 256 := by
  simp [IntKind.wrap, IntKind.bits, IntKind.signed]
/-- What a set leaves: the block, and all else as it was. -/
def SetPost (c : Cl) (A : Option Addr) (cap b f : Nat) (n : Int) (w : World) (e : Ending) (w' : World) : Prop :=
  e = .returned (.tuple #[]) ∧ ClBlk w' b (setF c n f) A cap ∧ (w' = w ∨ ∃ j v, w' = w.setCell ⟨b, j, none⟩ v)
set_option maxHeartbeats 4000000 in
set_option maxRecDepth 100000 in
theorem set_any (f : Nat) (hf : f < 10) (n : Int) (c : Cl) (A : Option Addr) (cap b : Nat) (w : World) (hB : ClBlk w b c A cap) :
    Calls Tryz.prog 28 #[.pointer (some ⟨b, 0, none⟩), .int .i64 f, .int .i64 n] w (SetPost c A cap b f n w) := by
  have HB := Lib.hid hB
  have hX := hB.at
  have h0 := hX.g1
  have h1 := hX.g2
  have h2 := hX.g3
  have h3 := hX.g4
  have h4 := hX.g5
  have h5 := hX.g6
  have h6 := hX.g9
  have h7 := hX.gA
  have h9 := hX.g7
  have hl := hB.lt
  have z := hB.fz
  have z1 := z 1
  have z2 := z 2
  have z3 := z 3
  have z4 := z 4
  have z5 := z 5
  have z6 := z 6
  have z7 := z 7
  have z9 := z 9
  have zA := z 10
  clear hX hB z
  obtain ⟨fi, hfi⟩ : ∃ fi : Int, (f : Int) = fi := ⟨_, rfl⟩
  rw [hfi]
  have hf2 : fi = 0 ∨ fi = 1 ∨ fi = 2 ∨ fi = 3 ∨ fi = 4 ∨ fi = 5 ∨ fi = 6 ∨ fi = 7 ∨ fi = 8 ∨ fi = 9 := by omega
  have hft : f = fi.toNat := by omega
  subst hft
  clear hfi hf
  go_enter Tryz.func28, Tryz.ntmps28
  rcases hf2 with rfl | rfl | rfl | rfl | rfl | rfl | rfl | rfl | rfl | rfl
  all_goals
    go_wp2_with fail
    refine bodyPost_ret (v := .tuple #[]) (by simp [results, Tryz.results28, go_sem]) rfl ?_
    first
    | exact ⟨rfl, HB.out, .inl rfl⟩
    | exact ⟨rfl, HB.out.set _ _ (by simp [clCells, setF, wrap_u8_mod]), .inr ⟨_, _, rfl⟩⟩
    | exact ⟨rfl, HB.out.set _ _ rfl, .inr ⟨_, _, rfl⟩⟩
end Go.Proofs.YtgphigpbgiceiaaGreatDoor
