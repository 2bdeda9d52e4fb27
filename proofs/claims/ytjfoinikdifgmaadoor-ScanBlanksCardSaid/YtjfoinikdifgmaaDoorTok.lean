/- Words (scan.Token) in memory: a slice of them that is read; the list of them. -/
import Derived.Test.YtjfoinikdifgmaaDoorProg
import Derived.Test.YtjfoinikdifgmaaDoorBase
import Derived.Test.YtjfoinikdifgmaaDoorTokP
import Derived.WalkKit
import Derived.WalkSpells
import Derived.Lib.Hide
import Derived.Lib.Builder
import Derived.Laws.Rows
namespace Go.Proofs.YtjfoinikdifgmaaDoor
open Go.RowKit

def Tok.cells (t : Tok) : List Value := [.int .u8 t.kind, .string t.text, .int .i64 t.num, .int .i64 t.line, .int .i64 t.col]
def tokCells (l : List Tok) : List Value := l.flatMap Tok.cells
/-- What a token's numbers are within. -/
structure Tok.Ok (t : Tok) : Prop where
  kind : 0 ≤ t.kind ∧ t.kind ≤ 255
  text : t.text.size ≤ 9223372036854775807
  num : -9223372036854775808 ≤ t.num ∧ t.num ≤ 9223372036854775807
  line : -9223372036854775808 ≤ t.line ∧ t.line ≤ 9223372036854775807
  col : -9223372036854775808 ≤ t.col ∧ t.col ≤ 9223372036854775807
/-- The cells of the token at a place. -/
structure TokAt (w : World) (b o : Nat) (t : Tok) : Prop where
  c0 : w.cell? ⟨b, o, none⟩ = some (.int .u8 t.kind)
  c1 : w.cell? ⟨b, o + 1, none⟩ = some (.string t.text)
  c2 : w.cell? ⟨b, o + 2, none⟩ = some (.int .i64 t.num)
  c3 : w.cell? ⟨b, o + 3, none⟩ = some (.int .i64 t.line)
  c4 : w.cell? ⟨b, o + 4, none⟩ = some (.int .i64 t.col)
/-- A slice's first n elements read as these tokens (nil let in). -/
def TokRow (w : World) (A : Option Addr) (l : List Tok) : Prop :=
  ∀ k (hk : k < l.length), ∃ b o, A = some ⟨b, o, none⟩ ∧ b < w.heap.size ∧ TokAt w b (o + k * 5) l[k]
theorem TokAt.below {w w' : World} {b o : Nat} {t : Tok} (h : TokAt w b o t) (hb : Below w.heap.size w w') : TokAt w' b o t :=
  ⟨cell_later hb h.c0, cell_later hb h.c1, cell_later hb h.c2, cell_later hb h.c3, cell_later hb h.c4⟩
theorem TokRow.below {w w' : World} {A : Option Addr} {l : List Tok} (h : TokRow w A l) (hb : Below w.heap.size w w') : TokRow w' A l := fun k hk => by
  obtain ⟨b, o, e, hlt, ht⟩ := h k hk
  exact ⟨b, o, e, Nat.lt_of_lt_of_le hlt hb.size, ht.below hb⟩
/-- A variable that holds a word. -/
def TokBlk (w : World) (b : Nat) (t : Tok) : Prop := w.heap[b]? = some (.cells #[.int .u8 t.kind, .string t.text, .int .i64 t.num, .int .i64 t.line, .int .i64 t.col] 36 (0, 0))
theorem TokBlk.lt {w : World} {b : Nat} {t : Tok} (h : TokBlk w b t) : b < w.heap.size := (Array.getElem?_eq_some_iff.1 h).1
theorem TokBlk.below {w w' : World} {b : Nat} {t : Tok} (h : TokBlk w b t) (hb : Below w.heap.size w w') : TokBlk w' b t := (hb.block b h.lt).trans h
theorem TokBlk.new (w : World) (t : Tok) : TokBlk (w.alloc (.cells #[.int .u8 t.kind, .string t.text, .int .i64 t.num, .int .i64 t.line, .int .i64 t.col] 36)) w.heap.size t := heap_alloc_new w _
theorem TokBlk.f {w : World} {b : Nat} {t : Tok} (h : TokBlk w b t) (i : Nat) : w.frozen? ⟨b, i, none⟩ = false := Lib.frozen_of_heap h i
theorem TokBlk.set0 {w : World} {b : Nat} {t : Tok} (h : TokBlk w b t) (x : Int) : TokBlk (w.setCell ⟨b, 0, none⟩ (.int .u8 x)) b { t with kind := x } := by
  unfold TokBlk at h ⊢
  simp [World.setCell, Array.getElem?_modify, h]
theorem TokBlk.set1 {w : World} {b : Nat} {t : Tok} (h : TokBlk w b t) (x : ByteArray) : TokBlk (w.setCell ⟨b, 1, none⟩ (.string x)) b { t with text := x } := by
  unfold TokBlk at h ⊢
  simp [World.setCell, Array.getElem?_modify, h]
theorem TokBlk.set2 {w : World} {b : Nat} {t : Tok} (h : TokBlk w b t) (x : Int) : TokBlk (w.setCell ⟨b, 2, none⟩ (.int .i64 x)) b { t with num := x } := by
  unfold TokBlk at h ⊢
  simp [World.setCell, Array.getElem?_modify, h]
theorem TokBlk.set3 {w : World} {b : Nat} {t : Tok} (h : TokBlk w b t) (x : Int) : TokBlk (w.setCell ⟨b, 3, none⟩ (.int .i64 x)) b { t with line := x } := by
  unfold TokBlk at h ⊢
  simp [World.setCell, Array.getElem?_modify, h]
theorem TokBlk.set4 {w : World} {b : Nat} {t : Tok} (h : TokBlk w b t) (x : Int) : TokBlk (w.setCell ⟨b, 4, none⟩ (.int .i64 x)) b { t with col := x } := by
  unfold TokBlk at h ⊢
  simp [World.setCell, Array.getElem?_modify, h]
theorem TokBlk.c0 {w : World} {b : Nat} {t : Tok} (h : TokBlk w b t) : w.cell? ⟨b, 0, none⟩ = some (.int .u8 t.kind) := by rw [Lib.cell_of_heap h]; rfl
theorem TokBlk.c1 {w : World} {b : Nat} {t : Tok} (h : TokBlk w b t) : w.cell? ⟨b, 1, none⟩ = some (.string t.text) := by rw [Lib.cell_of_heap h]; rfl
theorem TokBlk.c2 {w : World} {b : Nat} {t : Tok} (h : TokBlk w b t) : w.cell? ⟨b, 2, none⟩ = some (.int .i64 t.num) := by rw [Lib.cell_of_heap h]; rfl
theorem TokBlk.c3 {w : World} {b : Nat} {t : Tok} (h : TokBlk w b t) : w.cell? ⟨b, 3, none⟩ = some (.int .i64 t.line) := by rw [Lib.cell_of_heap h]; rfl
theorem TokBlk.c4 {w : World} {b : Nat} {t : Tok} (h : TokBlk w b t) : w.cell? ⟨b, 4, none⟩ = some (.int .i64 t.col) := by rw [Lib.cell_of_heap h]; rfl
end Go.Proofs.YtjfoinikdifgmaaDoor
