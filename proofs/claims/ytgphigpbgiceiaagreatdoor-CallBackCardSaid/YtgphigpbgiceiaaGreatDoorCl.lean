/- Calls as records; the walks of call.get, call.set. -/
import Derived.Test.YtgphigpbgiceiaaGreatDoorUses2
import Derived.Lib.QuietBelow
namespace Go.Proofs.YtgphigpbgiceiaaGreatDoor
open Go.RowKit Go.Sort
set_option linter.unusedVariables false
set_option linter.unusedSimpArgs false

structure Cl where
  kind : Int
  comm : Int
  peer : Int
  tag : Int
  value : Int
  size : Int
  root : Int
  op : Int
  reqs : List Int
  color : Int
  key : Int
def I64 (n : Int) : Prop := -9223372036854775808 ≤ n ∧ n ≤ 9223372036854775807
structure Cl.Ok (c : Cl) : Prop where
  kind : 0 ≤ c.kind ∧ c.kind ≤ 255
  comm : I64 c.comm
  peer : I64 c.peer
  tag : I64 c.tag
  value : I64 c.value
  size : I64 c.size
  root : I64 c.root
  op : 0 ≤ c.op ∧ c.op ≤ 255
  reqs : ∀ n ∈ c.reqs, I64 n
  color : I64 c.color
  key : I64 c.key
abbrev clCells (c : Cl) (A : Option Addr) (cap : Nat) : Array Value := #[.int .u8 c.kind, .int .i64 c.comm, .int .i64 c.peer, .int .i64 c.tag, .int .i64 c.value, .int .i64 c.size, .int .i64 c.root, .int .u8 c.op, .slice A c.reqs.length cap, .int .i64 c.color, .int .i64 c.key]
/-- A call, laid in a block. -/
structure ClAt (w : World) (b : Nat) (c : Cl) (A : Option Addr) (cap : Nat) : Prop where
  g0 : w.cell? ⟨b, 0, none⟩ = some (.int .u8 c.kind)
  g1 : w.cell? ⟨b, 1, none⟩ = some (.int .i64 c.comm)
  g2 : w.cell? ⟨b, 2, none⟩ = some (.int .i64 c.peer)
  g3 : w.cell? ⟨b, 3, none⟩ = some (.int .i64 c.tag)
  g4 : w.cell? ⟨b, 4, none⟩ = some (.int .i64 c.value)
  g5 : w.cell? ⟨b, 5, none⟩ = some (.int .i64 c.size)
  g6 : w.cell? ⟨b, 6, none⟩ = some (.int .i64 c.root)
  g7 : w.cell? ⟨b, 7, none⟩ = some (.int .u8 c.op)
  g8 : w.cell? ⟨b, 8, none⟩ = some (.slice A c.reqs.length cap)
  g9 : w.cell? ⟨b, 9, none⟩ = some (.int .i64 c.color)
  gA : w.cell? ⟨b, 10, none⟩ = some (.int .i64 c.key)
theorem ClAt.below {w w' : World} {b : Nat} {c : Cl} {A : Option Addr} {cap : Nat} (h : ClAt w b c A cap) (hb : Below w.heap.size w w') : ClAt w' b c A cap :=
  ⟨cell_later hb h.g0, cell_later hb h.g1, cell_later hb h.g2, cell_later hb h.g3, cell_later hb h.g4, cell_later hb h.g5, cell_later hb h.g6, cell_later hb h.g7, cell_later hb h.g8, cell_later hb h.g9, cell_later hb h.gA⟩
/-- .. in a block of its own. -/
def ClBlk (w : World) (b : Nat) (c : Cl) (A : Option Addr) (cap : Nat) : Prop := w.heap[b]? = some (.cells (clCells c A cap) 24 (0, 0))
theorem ClBlk.at {w : World} {b : Nat} {c : Cl} {A : Option Addr} {cap : Nat} (h : ClBlk w b c A cap) : ClAt w b c A cap := by
  constructor <;> rw [Lib.cell_of_heap h] <;> rfl
theorem ClBlk.new {w : World} {c : Cl} {A : Option Addr} {cap : Nat} : ClBlk (w.alloc (.cells (clCells c A cap) 24)) w.heap.size c A cap := heap_alloc_new w _
theorem ClBlk.lt {w : World} {b : Nat} {c : Cl} {A : Option Addr} {cap : Nat} (h : ClBlk w b c A cap) : b < w.heap.size := (Array.getElem?_eq_some_iff.1 h).1
theorem ClBlk.fz {w : World} {b : Nat} {c : Cl} {A : Option Addr} {cap : Nat} (h : ClBlk w b c A cap) (j : Nat) : w.frozen? ⟨b, j, none⟩ = false := by
  unfold ClBlk at h
  simp [World.frozen?, h]
theorem ClBlk.below {w w' : World} {b : Nat} {c : Cl} {A : Option Addr} {cap : Nat} (h : ClBlk w b c A cap) (hb : Below w.heap.size w w') : ClBlk w' b c A cap := (hb.block b h.lt).trans h
def getF (c : Cl) : Nat → Int
  | 0 => c.comm
  | 1 => c.peer
  | 2 => c.tag
  | 3 => c.value
  | 4 => c.size
  | 5 => c.root
  | 6 => c.color
  | 7 => c.key
  | 9 => c.op
  | _ => 0
def setF (c : Cl) (n : Int) : Nat → Cl
  | 0 => { c with comm := n }
  | 1 => { c with peer := n }
  | 2 => { c with tag := n }
  | 3 => { c with value := n }
  | 4 => { c with size := n }
  | 5 => { c with root := n }
  | 6 => { c with color := n }
  | 7 => { c with key := n }
  | 9 => { c with op := n % 256 }
  | _ => c
theorem index_ten0 (a b c d e f g h i j : Value) : ∀ w, (Instr.index 77 (.agg #[a, b, c, d, e, f, g, h, i, j]) (.int .i64 0)).run Tryz.prog w = .ok a w := fun w => by kernel_rfl
theorem index_ten1 (a b c d e f g h i j : Value) : ∀ w, (Instr.index 77 (.agg #[a, b, c, d, e, f, g, h, i, j]) (.int .i64 1)).run Tryz.prog w = .ok b w := fun w => by kernel_rfl
theorem index_ten2 (a b c d e f g h i j : Value) : ∀ w, (Instr.index 77 (.agg #[a, b, c, d, e, f, g, h, i, j]) (.int .i64 2)).run Tryz.prog w = .ok c w := fun w => by kernel_rfl
theorem index_ten3 (a b c d e f g h i j : Value) : ∀ w, (Instr.index 77 (.agg #[a, b, c, d, e, f, g, h, i, j]) (.int .i64 3)).run Tryz.prog w = .ok d w := fun w => by kernel_rfl
theorem index_ten4 (a b c d e f g h i j : Value) : ∀ w, (Instr.index 77 (.agg #[a, b, c, d, e, f, g, h, i, j]) (.int .i64 4)).run Tryz.prog w = .ok e w := fun w => by kernel_rfl
theorem index_ten5 (a b c d e f g h i j : Value) : ∀ w, (Instr.index 77 (.agg #[a, b, c, d, e, f, g, h, i, j]) (.int .i64 5)).run Tryz.prog w = .ok f w := fun w => by kernel_rfl
theorem index_ten6 (a b c d e f g h i j : Value) : ∀ w, (Instr.index 77 (.agg #[a, b, c, d, e, f, g, h, i, j]) (.int .i64 6)).run Tryz.prog w = .ok g w := fun w => by kernel_rfl
theorem index_ten7 (a b c d e f g h i j : Value) : ∀ w, (Instr.index 77 (.agg #[a, b, c, d, e, f, g, h, i, j]) (.int .i64 7)).run Tryz.prog w = .ok h w := fun w => by kernel_rfl
theorem index_ten8 (a b c d e f g h i j : Value) : ∀ w, (Instr.index 77 (.agg #[a, b, c, d, e, f, g, h, i, j]) (.int .i64 8)).run Tryz.prog w = .ok i w := fun w => by kernel_rfl
theorem index_ten9 (a b c d e f g h i j : Value) : ∀ w, (Instr.index 77 (.agg #[a, b, c, d, e, f, g, h, i, j]) (.int .i64 9)).run Tryz.prog w = .ok j w := fun w => by kernel_rfl
set_option maxHeartbeats 4000000 in
set_option maxRecDepth 100000 in
theorem get_any (f : Nat) (hf : f < 10) (c : Cl) (A : Option Addr) (cap : Nat) (hop : 0 ≤ c.op ∧ c.op ≤ 255) (w : World) :
    Calls Tryz.prog 19 #[.agg (clCells c A cap), .int .i64 f] w fun e w' => e = .returned (.int .i64 (getF c f)) ∧ Below w.heap.size w w' := by
  have hb1 : Below w.heap.size w (w.alloc (.cells (clCells c A cap) 24)) := (Below.refl _ _).alloc (Nat.le_refl _) _
  have hX : ClAt (w.alloc (.cells (clCells c A cap) 24)) w.heap.size c A cap := ClBlk.new.at
  have hwo : IntKind.i64.wrap c.op = c.op := IntWalk.i64_in _ (by omega)
  have HB := Lib.hid hb1
  have h0 := hX.g1
  have h1 := hX.g2
  have h2 := hX.g3
  have h3 := hX.g4
  have h4 := hX.g5
  have h5 := hX.g6
  have h6 := hX.g9
  have h7 := hX.gA
  have h9 := hX.g7
  clear hb1 hX
  obtain ⟨fi, hfi⟩ : ∃ fi : Int, (f : Int) = fi := ⟨_, rfl⟩
  rw [hfi]
  have hf2 : fi = 0 ∨ fi = 1 ∨ fi = 2 ∨ fi = 3 ∨ fi = 4 ∨ fi = 5 ∨ fi = 6 ∨ fi = 7 ∨ fi = 8 ∨ fi = 9 := by omega
  have hft : f = fi.toNat := by omega
  subst hft
  clear hfi hf
  go_enter Tryz.func19, Tryz.ntmps19
  go_upto_region 1 with fail
  generalize w.alloc (.cells (clCells c A cap) 24) = w1 at *
  have k0 := index_ten0 (.int .i64 c.comm) (.int .i64 c.peer) (.int .i64 c.tag) (.int .i64 c.value) (.int .i64 c.size) (.int .i64 c.root) (.int .i64 c.color) (.int .i64 c.key) (.int .i64 0) (.int .i64 c.op)
  have k1 := index_ten1 (.int .i64 c.comm) (.int .i64 c.peer) (.int .i64 c.tag) (.int .i64 c.value) (.int .i64 c.size) (.int .i64 c.root) (.int .i64 c.color) (.int .i64 c.key) (.int .i64 0) (.int .i64 c.op)
  have k2 := index_ten2 (.int .i64 c.comm) (.int .i64 c.peer) (.int .i64 c.tag) (.int .i64 c.value) (.int .i64 c.size) (.int .i64 c.root) (.int .i64 c.color) (.int .i64 c.key) (.int .i64 0) (.int .i64 c.op)
  have k3 := index_ten3 (.int .i64 c.comm) (.int .i64 c.peer) (.int .i64 c.tag) (.int .i64 c.value) (.int .i64 c.size) (.int .i64 c.root) (.int .i64 c.color) (.int .i64 c.key) (.int .i64 0) (.int .i64 c.op)
  have k4 := index_ten4 (.int .i64 c.comm) (.int .i64 c.peer) (.int .i64 c.tag) (.int .i64 c.value) (.int .i64 c.size) (.int .i64 c.root) (.int .i64 c.color) (.int .i64 c.key) (.int .i64 0) (.int .i64 c.op)
  have k5 := index_ten5 (.int .i64 c.comm) (.int .i64 c.peer) (.int .i64 c.tag) (.int .i64 c.value) (.int .i64 c.size) (.int .i64 c.root) (.int .i64 c.color) (.int .i64 c.key) (.int .i64 0) (.int .i64 c.op)
  have k6 := index_ten6 (.int .i64 c.comm) (.int .i64 c.peer) (.int .i64 c.tag) (.int .i64 c.value) (.int .i64 c.size) (.int .i64 c.root) (.int .i64 c.color) (.int .i64 c.key) (.int .i64 0) (.int .i64 c.op)
  have k7 := index_ten7 (.int .i64 c.comm) (.int .i64 c.peer) (.int .i64 c.tag) (.int .i64 c.value) (.int .i64 c.size) (.int .i64 c.root) (.int .i64 c.color) (.int .i64 c.key) (.int .i64 0) (.int .i64 c.op)
  have k8 := index_ten8 (.int .i64 c.comm) (.int .i64 c.peer) (.int .i64 c.tag) (.int .i64 c.value) (.int .i64 c.size) (.int .i64 c.root) (.int .i64 c.color) (.int .i64 c.key) (.int .i64 0) (.int .i64 c.op)
  have k9 := index_ten9 (.int .i64 c.comm) (.int .i64 c.peer) (.int .i64 c.tag) (.int .i64 c.value) (.int .i64 c.size) (.int .i64 c.root) (.int .i64 c.color) (.int .i64 c.key) (.int .i64 0) (.int .i64 c.op)
  rcases hf2 with rfl | rfl | rfl | rfl | rfl | rfl | rfl | rfl | rfl | rfl
  all_goals
    go_wp2_with fail
    go_ret
    exact ⟨rfl, HB.out⟩
end Go.Proofs.YtgphigpbgiceiaaGreatDoor
