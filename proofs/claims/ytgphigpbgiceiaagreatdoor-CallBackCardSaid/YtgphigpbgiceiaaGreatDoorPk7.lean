/- A row that lies below a block. · The walk of slices.Clone at []int. -/
import Derived.Test.YtgphigpbgiceiaaGreatDoorPk0
import Derived.Lib.Hide
import Derived.Deep.Cut
import Derived.Test.YtgphigpbgiceiaaGreatDoorPk6
import Derived.Deep.LoopGhost
import Derived.Lib.SliceRun
namespace Go.Proofs.YtgphigpbgiceiaaGreatDoor
open Go.RowKit

/-- A row that lies below a block. -/
def IntLow (n : Nat) (w : World) (A : Option Addr) (l : List Int) : Prop := ∀ k (hk : k < l.length), ∃ b o, A = some ⟨b, o, none⟩ ∧ b < n ∧ w.cell? ⟨b, o + k, none⟩ = some (.int .i64 l[k])
theorem IntRow.low {w : World} {A : Option Addr} {l : List Int} (h : IntRow w A l) : IntLow w.heap.size w A l := h
theorem IntLow.below {n : Nat} {w w' : World} {A : Option Addr} {l : List Int} (h : IntLow n w A l) (hb : Below n w w') : IntLow n w' A l := fun k hk => by
  obtain ⟨b, o, rfl, h1, h2⟩ := h k hk
  exact ⟨b, o, rfl, h1, (hb.cell (p := ⟨b, o + k, none⟩) h1).trans h2⟩
theorem IntLow.more {n m : Nat} {w : World} {A : Option Addr} {l : List Int} (h : IntLow n w A l) (hm : n ≤ m) : IntLow m w A l := fun k hk => by
  obtain ⟨b, o, rfl, h1, h2⟩ := h k hk
  exact ⟨b, o, rfl, Nat.lt_of_lt_of_le h1 hm, h2⟩
/-- A block of cells of a type. -/
def BlkT (w : World) (b : Nat) (t : TypeId) (cs : Array Value) : Prop := w.heap[b]? = some (.cells cs t (0, 0))
theorem BlkT.below {w w' : World} {b : Nat} {t : TypeId} {cs : Array Value} (h : BlkT w b t cs) (hb : Below w.heap.size w w') : BlkT w' b t cs := (hb.block b (Array.getElem?_eq_some_iff.1 h).1).trans h
theorem BlkT.cell {w : World} {b : Nat} {t : TypeId} {cs : Array Value} (h : BlkT w b t cs) (j : Nat) (v : Value) (hv : cs[j]? = some v) : w.cell? ⟨b, j, none⟩ = some v := by
  rw [Lib.cell_of_heap h]
  exact hv
theorem BlkT.fz {w : World} {b : Nat} {t : TypeId} {cs : Array Value} (h : BlkT w b t cs) (j : Nat) : w.frozen? ⟨b, j, none⟩ = false := by
  unfold BlkT at h
  simp [World.frozen?, h]
theorem BlkT.lt {w : World} {b : Nat} {t : TypeId} {cs : Array Value} (h : BlkT w b t cs) : b < w.heap.size := (Array.getElem?_eq_some_iff.1 h).1
theorem BlkT.set {w : World} {b : Nat} {t : TypeId} {cs : Array Value} (h : BlkT w b t cs) (j : Nat) (v : Value) : BlkT (w.setCell ⟨b, j, none⟩ v) b t (cs.setIfInBounds j v) := by
  unfold BlkT
  rw [heap_setCell_same w b j _ _ _ h]
theorem BlkT.other {w : World} {b : Nat} {t : TypeId} {cs : Array Value} (h : BlkT w b t cs) (p : Addr) (hq : p.block ≠ b) (v : Value) : BlkT (w.setCell p v) b t cs := by
  unfold BlkT
  rw [heap_setCell_other w p b v (fun e => hq e.symm)]
  exact h
/-- Numbers in a block of one's own, behind a place. -/
def FreshRow (n : Nat) (w : World) (B : Option Addr) (len : Nat) : Prop := 0 < len → ∃ g cs, B = some ⟨g, 0, none⟩ ∧ n ≤ g ∧ BlkT w g 3 cs ∧ len ≤ cs.size
theorem FreshRow.below {n : Nat} {w w' : World} {B : Option Addr} {len : Nat} (h : FreshRow n w B len) (hb : Below w.heap.size w w') : FreshRow n w' B len := fun h0 => by
  obtain ⟨g, cs, h1, h2, h3, h4⟩ := h h0
  exact ⟨g, cs, h1, h2, h3.below hb, h4⟩
theorem FreshRow.less {n m : Nat} {w : World} {B : Option Addr} {len : Nat} (h : FreshRow n w B len) (hm : m ≤ n) : FreshRow m w B len := fun h0 => by
  obtain ⟨g, cs, h1, h2, h3, h4⟩ := h h0
  exact ⟨g, cs, h1, Nat.le_trans hm h2, h3, h4⟩
theorem FreshRow.set {n : Nat} {w : World} {B : Option Addr} {len : Nat} (h : FreshRow n w B len) (p : Addr) (hp : ∀ a, B = some a → a.block ≠ p.block) (v : Value) : FreshRow n (w.setCell p v) B len := fun h0 => by
  obtain ⟨g, cs, h1, h2, h3, h4⟩ := h h0
  exact ⟨g, cs, h1, h2, h3.other p (fun e => hp _ h1 e.symm) v, h4⟩
end Go.Proofs.YtgphigpbgiceiaaGreatDoor
namespace Go.Proofs.YtgphigpbgiceiaaGreatDoor
open Go.RowKit Go.Sort
set_option linter.unusedVariables false
set_option linter.unusedSimpArgs false

theorem freshRow_of_own {w : World} {base n c : Nat} {A : Option Addr} {xs : List Value} (h : w.ownsRow base 3 1 (.slice A n c) n xs) : FreshRow base w A n := fun hn => by
  rcases h.2 with ⟨_, h0⟩ | ⟨g, cap, cur, e1, h1, h2, h3, h4, h5, h6⟩
  · omega
  · simp only [Value.slice.injEq] at e1
    obtain ⟨rfl, _, rfl⟩ := e1
    exact ⟨g, cur, rfl, h1, h2, by omega⟩
set_option maxHeartbeats 4000000 in
set_option maxRecDepth 100000 in
theorem clone_any (A : Option Addr) (cap : Nat) (l : List Int) (w : World) (hR : IntRow w A l) (hl : l.length ≤ 1000) :
    Calls Tryz.prog 34 #[.slice A l.length cap] w fun e w' => ∃ (B : Option Addr) (cb : Nat), e = .returned (.slice B l.length cb) ∧ IntRow w' B l ∧ (∀ a, B = some a → w.heap.size ≤ a.block) ∧ FreshRow w.heap.size w' B l.length ∧ Below w.heap.size w w' := by
  have q22 : ∀ (w : World) (a : Option Addr) (n c n' c' : Nat), (binOp .eql 22 (.slice a n c) (.slice none n' c')).run Tryz.prog w = .ok (.bool a.isNone) w := fun w a n c n' c' => Lib.run_eql_slice_nil w _ _ a n c n' c' Tryz.underlying22
  cases A with
  | none =>
    obtain rfl : l = [] := by
      cases l with
      | nil => rfl
      | cons x l =>
        obtain ⟨b, o, e, _⟩ := hR 0 (by simp)
        cases e
    clear hR
    go_enter Tryz.func34, Tryz.ntmps34
    go_wp2_with fail
    go_ret
    exact ⟨none, 0, rfl, fun k hk => absurd hk (by simp), fun a ha => (by cases ha), fun h => absurd h (by simp), Below.refl _ _⟩
  | some a =>
    obtain ⟨i1, hi1, hz01, hz11, hz21⟩ := info_parts Tryz.infoInt
    have H1 := Lib.hid (And.intro hi1 (And.intro hz01 (And.intro hz11 hz21)))
    clear hi1 hz01 hz11 hz21
    have HC := Lib.hid (intRow_cells hR)
    have HL := Lib.hid hl
    clear hR hl
    go_enter Tryz.func34, Tryz.ntmps34
    go_wp2_with (at_builtin; refine wpList_append_own _ rfl _ _ 22 rfl w.heap.size 3 i1 (.int .i64 0) 1 8 Tryz.underlying22 H1.out.1 H1.out.2.1 H1.out.2.2.1 H1.out.2.2.2 rfl (by decide) _ _ _ rfl (World.ownsRow_made w #[] 0 (Nat.le_refl _) (Nat.zero_le _) rfl) a l.length cap (l.map (Value.int .i64)) rfl ?qc1 ?qc2 ?qc3 ?qc4 ?qc5 ?qc6 ?_)
    case qc1 => simp
    case qc2 =>
      intro j u hj
      obtain ⟨a', e', h⟩ := HC.out j u hj
      cases e'
      exact Lib.cell?_alloc_some _ h
    case qc3 => intro u hu; obtain ⟨x, _, rfl⟩ := List.mem_map.1 hu; rfl
    case qc4 => have := HL.out; unfold maxLen; omega
    case qc5 => have := HL.out; omega
    case qc6 => simp
    intro v' w1 hown hgrow hnil
    have hown2 : w1.ownsRow w.heap.size 3 1 v' l.length (l.map (Value.int .i64)) := by simpa using hown
    obtain ⟨B, cb, rfl, _, _, h1, _⟩ := own_shape hown2
    go_wp2_with fail
    go_ret
    refine ⟨B, cb, rfl, intRow_of_own hown2, fun b hb => ?_, freshRow_of_own hown2, ((Below.refl _ w).alloc (Nat.le_refl _) _).grown hgrow (by simp) (by intro k hk; simp [Value.ownBlock] at hk; omega)⟩
    obtain ⟨g, rfl, h3, _⟩ := h1 b hb
    exact h3
end Go.Proofs.YtgphigpbgiceiaaGreatDoor
