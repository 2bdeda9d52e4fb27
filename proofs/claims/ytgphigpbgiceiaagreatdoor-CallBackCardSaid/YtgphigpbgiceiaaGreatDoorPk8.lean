/- The walks of dispatcherref16.uses, has. · The walk of dispatcherref16.Trim. -/
import Derived.Test.YtgphigpbgiceiaaGreatDoorCl
import Derived.Test.YtgphigpbgiceiaaGreatDoorPk6
import Derived.Deep.Cut
namespace Go.Proofs.YtgphigpbgiceiaaGreatDoor
open Go.RowKit Go.Sort
set_option linter.unusedVariables false
set_option linter.unusedSimpArgs false

/-- What a kind uses, by letters. -/
def usesS (k : Int) : List UInt8 :=
  if k = 1 ∨ k = 2 ∨ k = 3 ∨ k = 4 ∨ k = 5 then [99, 112, 116, 118, 115]
  else if k = 6 ∨ k = 7 ∨ k = 13 ∨ k = 14 then [99, 112, 116]
  else if k = 8 ∨ k = 9 ∨ k = 10 ∨ k = 11 ∨ k = 12 then [108]
  else if k = 15 ∨ k = 20 ∨ k = 22 then [99]
  else if k = 16 ∨ k = 19 then [99, 114, 118]
  else if k = 17 then [99, 114, 118, 111]
  else if k = 18 then [99, 118, 111]
  else if k = 21 then [99, 107]
  else []
theorem usesS_len (k : Int) : (usesS k).length ≤ 5 := by
  unfold usesS
  repeat (split; · simp)
  simp
end Go.Proofs.YtgphigpbgiceiaaGreatDoor
namespace Go.Proofs.YtgphigpbgiceiaaGreatDoor
open Go.RowKit Go.Sort
set_option linter.unusedVariables false
set_option linter.unusedSimpArgs false

def zeroCl : Cl := ⟨0, 0, 0, 0, 0, 0, 0, 0, [], 0, 0⟩
def pickI (b : Bool) (n : Int) : Int := if b = true then n else 0
def pickL (b : Bool) (l : List Int) : List Int := if b = true then l else []
/-- A call, trim, by letters. -/
def rtrim (c : Cl) : Cl := if usesS c.kind = [] then zeroCl else
  let h := fun x => (usesS c.kind).contains x
  ⟨c.kind, pickI (h 99) c.comm, pickI (h 112) c.peer, pickI (h 116) c.tag, pickI (h 118) c.value, pickI (h 115) c.size, pickI (h 114) c.root, pickI (h 111) c.op, pickL (h 108) c.reqs, pickI (h 107) c.color, pickI (h 107) c.key⟩
/-- A block of eleven cells. -/
def CBlk (w : World) (b : Nat) (cs : Array Value) : Prop := w.heap[b]? = some (.cells cs 24 (0, 0))
theorem CBlk.below {w w' : World} {b : Nat} {cs : Array Value} (h : CBlk w b cs) (hb : Below w.heap.size w w') : CBlk w' b cs := (hb.block b (Array.getElem?_eq_some_iff.1 h).1).trans h
theorem CBlk.cell {w : World} {b : Nat} {cs : Array Value} (h : CBlk w b cs) (j : Nat) (v : Value) (hv : cs[j]? = some v) : w.cell? ⟨b, j, none⟩ = some v := by
  rw [Lib.cell_of_heap h]
  exact hv
theorem CBlk.fz {w : World} {b : Nat} {cs : Array Value} (h : CBlk w b cs) (j : Nat) : w.frozen? ⟨b, j, none⟩ = false := by
  unfold CBlk at h
  simp [World.frozen?, h]
theorem CBlk.lt {w : World} {b : Nat} {cs : Array Value} (h : CBlk w b cs) : b < w.heap.size := (Array.getElem?_eq_some_iff.1 h).1
theorem CBlk.set {w : World} {b : Nat} {cs : Array Value} (h : CBlk w b cs) (j : Nat) (v : Value) : CBlk (w.setCell ⟨b, j, none⟩ v) b (cs.setIfInBounds j v) := by
  unfold CBlk
  rw [heap_setCell_same w b j _ _ _ h]
theorem CBlk.other {w : World} {b q : Nat} {cs : Array Value} (h : CBlk w b cs) (hq : q ≠ b) (j : Nat) (v : Value) : CBlk (w.setCell ⟨q, j, none⟩ v) b cs := by
  unfold CBlk
  rw [heap_setCell_other w ⟨q, j, none⟩ b v (fun e => hq e.symm)]
  exact h
/-- A row of numbers that lies apart of two blocks. -/
def IntApart (w : World) (B : Option Addr) (l : List Int) (q1 q2 : Nat) : Prop := IntRow w B l ∧ ∀ a, B = some a → a.block ≠ q1 ∧ a.block ≠ q2
theorem IntApart.set {w : World} {B : Option Addr} {l : List Int} {q1 q2 : Nat} (h : IntApart w B l q1 q2) (p : Addr) (hp : p.block = q1 ∨ p.block = q2) (v : Value) : IntApart (w.setCell p v) B l q1 q2 := by
  refine ⟨fun k hk => ?_, h.2⟩
  obtain ⟨b, o, e, hlt, hc⟩ := h.1 k hk
  refine ⟨b, o, e, by rw [World.size_setCell]; exact hlt, ?_⟩
  have hne : p ≠ ⟨b, o + k, none⟩ := by
    rintro rfl
    obtain ⟨n1, n2⟩ := h.2 _ e
    exact hp.elim n1 n2
  rw [World.cell?_setCell_other (h := hne)]
  exact hc

end Go.Proofs.YtgphigpbgiceiaaGreatDoor
