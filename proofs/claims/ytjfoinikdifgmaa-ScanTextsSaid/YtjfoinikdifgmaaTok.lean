/- Words (scan.Token) in memory: a slice of them that is read; the list of them. -/
import Derived.Test.YtjfoinikdifgmaaProg
import Derived.Test.YtjfoinikdifgmaaBase
import Derived.WalkKit
import Derived.WalkSpells
import Derived.Lib.Hide
namespace Go.Proofs.Ytjfoinikdifgmaa
open Go.RowKit

structure Tok where
  kind : Int
  text : ByteArray
  num : Int
  line : Int
  col : Int
def Tok.cells (t : Tok) : List Value := [.int .u8 t.kind, .string t.text, .int .i64 t.num, .int .i64 t.line, .int .i64 t.col]
def tokCells (l : List Tok) : List Value := l.flatMap Tok.cells
/-- What a token's numbers are within. -/
structure Tok.Ok (t : Tok) : Prop where
  kind : 0 ≤ t.kind ∧ t.kind ≤ 255
  text : t.text.size ≤ 9223372036854775807
  num : -9223372036854775808 ≤ t.num ∧ t.num ≤ 9223372036854775807
  line : -9223372036854775808 ≤ t.line ∧ t.line ≤ 9223372036854775807
  col : -9223372036854775808 ≤ t.col ∧ t.col ≤ 9223372036854775807
/-- The cells of the token at a place. -/
structure TokAt (w : World) (b o : Nat) (t : Tok) : Prop where
  c0 : w.cell? ⟨b, o, none⟩ = some (.int .u8 t.kind)
  c1 : w.cell? ⟨b, o + 1, none⟩ = some (.string t.text)
  c2 : w.cell? ⟨b, o + 2, none⟩ = some (.int .i64 t.num)
  c3 : w.cell? ⟨b, o + 3, none⟩ = some (.int .i64 t.line)
  c4 : w.cell? ⟨b, o + 4, none⟩ = some (.int .i64 t.col)
/-- A slice's first n elements read as these tokens (nil let in). -/
def TokRow (w : World) (A : Option Addr) (l : List Tok) : Prop :=
  ∀ k (hk : k < l.length), ∃ b o, A = some ⟨b, o, none⟩ ∧ b < w.heap.size ∧ TokAt w b (o + k * 5) l[k]
theorem TokAt.below {w w' : World} {b o : Nat} {t : Tok} (h : TokAt w b o t) (hb : Below w.heap.size w w') : TokAt w' b o t :=
  ⟨cell_later hb h.c0, cell_later hb h.c1, cell_later hb h.c2, cell_later hb h.c3, cell_later hb h.c4⟩
theorem TokRow.below {w w' : World} {A : Option Addr} {l : List Tok} (h : TokRow w A l) (hb : Below w.heap.size w w') : TokRow w' A l := fun k hk => by
  obtain ⟨b, o, e, hlt, ht⟩ := h k hk
  exact ⟨b, o, e, Nat.lt_of_lt_of_le hlt hb.size, ht.below hb⟩
end Go.Proofs.Ytjfoinikdifgmaa
