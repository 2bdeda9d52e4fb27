/- A row that lies below a block. -/
import Derived.Test.YtgphigpbgiceiaaUtil
import Derived.Lib.Hide
import Derived.Deep.Cut
namespace Go.Proofs.Ytgphigpbgiceiaa
open Go.RowKit

/-- A row that lies below a block. -/
def IntLow (n : Nat) (w : World) (A : Option Addr) (l : List Int) : Prop := ∀ k (hk : k < l.length), ∃ b o, A = some ⟨b, o, none⟩ ∧ b < n ∧ w.cell? ⟨b, o + k, none⟩ = some (.int .i64 l[k])
theorem IntRow.low {w : World} {A : Option Addr} {l : List Int} (h : IntRow w A l) : IntLow w.heap.size w A l := h
theorem IntLow.below {n : Nat} {w w' : World} {A : Option Addr} {l : List Int} (h : IntLow n w A l) (hb : Below n w w') : IntLow n w' A l := fun k hk => by
  obtain ⟨b, o, rfl, h1, h2⟩ := h k hk
  exact ⟨b, o, rfl, h1, (hb.cell (p := ⟨b, o + k, none⟩) h1).trans h2⟩
theorem IntLow.more {n m : Nat} {w : World} {A : Option Addr} {l : List Int} (h : IntLow n w A l) (hm : n ≤ m) : IntLow m w A l := fun k hk => by
  obtain ⟨b, o, rfl, h1, h2⟩ := h k hk
  exact ⟨b, o, rfl, Nat.lt_of_lt_of_le h1 hm, h2⟩
/-- A block of cells of a type. -/
def BlkT (w : World) (b : Nat) (t : TypeId) (cs : Array Value) : Prop := w.heap[b]? = some (.cells cs t (0, 0))
theorem BlkT.below {w w' : World} {b : Nat} {t : TypeId} {cs : Array Value} (h : BlkT w b t cs) (hb : Below w.heap.size w w') : BlkT w' b t cs := (hb.block b (Array.getElem?_eq_some_iff.1 h).1).trans h
theorem BlkT.cell {w : World} {b : Nat} {t : TypeId} {cs : Array Value} (h : BlkT w b t cs) (j : Nat) (v : Value) (hv : cs[j]? = some v) : w.cell? ⟨b, j, none⟩ = some v := by
  rw [Lib.cell_of_heap h]
  exact hv
theorem BlkT.fz {w : World} {b : Nat} {t : TypeId} {cs : Array Value} (h : BlkT w b t cs) (j : Nat) : w.frozen? ⟨b, j, none⟩ = false := by
  unfold BlkT at h
  simp [World.frozen?, h]
theorem BlkT.lt {w : World} {b : Nat} {t : TypeId} {cs : Array Value} (h : BlkT w b t cs) : b < w.heap.size := (Array.getElem?_eq_some_iff.1 h).1
theorem BlkT.set {w : World} {b : Nat} {t : TypeId} {cs : Array Value} (h : BlkT w b t cs) (j : Nat) (v : Value) : BlkT (w.setCell ⟨b, j, none⟩ v) b t (cs.setIfInBounds j v) := by
  unfold BlkT
  rw [heap_setCell_same w b j _ _ _ h]
theorem BlkT.other {w : World} {b : Nat} {t : TypeId} {cs : Array Value} (h : BlkT w b t cs) (p : Addr) (hq : p.block ≠ b) (v : Value) : BlkT (w.setCell p v) b t cs := by
  unfold BlkT
  rw [heap_setCell_other w p b v (fun e => hq e.symm)]
  exact h
/-- Numbers in a block of one's own, behind a place. -/
def FreshRow (n : Nat) (w : World) (B : Option Addr) (len : Nat) : Prop := 0 < len → ∃ g cs, B = some ⟨g, 0, none⟩ ∧ n ≤ g ∧ BlkT w g 3 cs ∧ len ≤ cs.size
theorem FreshRow.below {n : Nat} {w w' : World} {B : Option Addr} {len : Nat} (h : FreshRow n w B len) (hb : Below w.heap.size w w') : FreshRow n w' B len := fun h0 => by
  obtain ⟨g, cs, h1, h2, h3, h4⟩ := h h0
  exact ⟨g, cs, h1, h2, h3.below hb, h4⟩
theorem FreshRow.less {n m : Nat} {w : World} {B : Option Addr} {len : Nat} (h : FreshRow n w B len) (hm : m ≤ n) : FreshRow m w B len := fun h0 => by
  obtain ⟨g, cs, h1, h2, h3, h4⟩ := h h0
  exact ⟨g, cs, h1, Nat.le_trans hm h2, h3, h4⟩
theorem FreshRow.set {n : Nat} {w : World} {B : Option Addr} {len : Nat} (h : FreshRow n w B len) (p : Addr) (hp : ∀ a, B = some a → a.block ≠ p.block) (v : Value) : FreshRow n (w.setCell p v) B len := fun h0 => by
  obtain ⟨g, cs, h1, h2, h3, h4⟩ := h h0
  exact ⟨g, cs, h1, h2, h3.other p (fun e => hp _ h1 e.symm) v, h4⟩
end Go.Proofs.Ytgphigpbgiceiaa
