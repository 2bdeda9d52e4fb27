/- The walks of scan.Text (wide bounds; where dispatcherref01.Text is not reached). -/
import Derived.Test.YtjfoinikdifgmaaDoorTok
import Derived.Test.YtjfoinikdifgmaaDoorBuilder
namespace Go.Proofs.YtjfoinikdifgmaaDoor
open Go.RowKit

def textOf : List Tok → List UInt8
  | [] => []
  | [t] => t.text.data.toList
  | t :: u :: r => t.text.data.toList ++ 32 :: textOf (u :: r)

theorem textOf_snoc : ∀ (l : List Tok) (t : Tok), l ≠ [] → textOf (l ++ [t]) = textOf l ++ 32 :: t.text.data.toList
  | [], _, h => absurd rfl h
  | [a], t, _ => by simp [textOf]
  | a :: b :: r, t, _ => by
    have ih := textOf_snoc (b :: r) t (by simp)
    simp only [List.cons_append] at ih ⊢
    simp only [textOf, ih, List.append_assoc, List.cons_append]
theorem textOf_take (l : List Tok) (k : Nat) (hk : k < l.length) (h0 : 0 < k) : textOf (l.take (k + 1)) = textOf (l.take k) ++ 32 :: l[k].text.data.toList := by
  rw [List.take_succ_eq_append_getElem hk]
  refine textOf_snoc _ _ (fun h => ?_)
  have := congrArg List.length h
  simp at this
  rcases this with h | h
  · omega
  · subst h; simp at hk
theorem textOf_one (l : List Tok) (hk : 0 < l.length) : textOf (l.take 1) = l[0].text.data.toList := by
  cases l with
  | nil => simp at hk
  | cons a r => simp [textOf]
theorem textOf_len : ∀ (l : List Tok), (∀ t ∈ l, t.text.size ≤ 8000) → (textOf l).length ≤ 8001 * l.length
  | [], _ => by simp [textOf]
  | [t], h => by
    have := h t (by simp)
    simp [textOf]
    omega
  | t :: u :: r, h => by
    have h1 := h t (by simp)
    have ih := textOf_len (u :: r) (fun x hx => h x (by simp [hx]))
    simp only [textOf, List.length_append, List.length_cons, Array.length_toList, ByteArray.size_data] at ih ⊢
    omega
theorem str_join (a : List UInt8) (t : ByteArray) : (⟨a.toArray⟩ ++ ⟨#[32]⟩ ++ t : ByteArray) = ⟨(a ++ 32 :: t.data.toList).toArray⟩ := by
  apply ByteArray.ext
  simp
theorem str_plus (a : List UInt8) (t : ByteArray) : (⟨a.toArray⟩ ++ t : ByteArray) = ⟨(a ++ t.data.toList).toArray⟩ := by
  apply ByteArray.ext
  simp

theorem lies_builder : Lies 64 ([] : List Value).length := by unfold Lies; kernel_rfl
theorem own_nil_row (w : World) (B : Nat) : w.ownsRow B 5 1 (.slice none 0 0) (Lib.byteCells []).length (Lib.byteCells []) := ⟨by simp [Lib.byteCells], .inl ⟨rfl, rfl⟩⟩

set_option maxHeartbeats 1000000 in
set_option maxRecDepth 100000 in
theorem text_any (A : Option Addr) (c : Nat) (l : List Tok) (w : World) (hR : TokRow w A l) (hn : l.length ≤ 8000) (hl : ∀ t ∈ l, t.text.size ≤ 8000) :
    Calls Tryd.prog 26 #[.slice A l.length c] w fun e w' => e = .returned (.string ⟨(textOf l).toArray⟩) ∧ Below w.heap.size w w' := by
  have HL := Lib.hid hl
  clear hl
  go_enter Tryd.func26, Tryd.ntmps26
  go_wp2
  go_loopw [8] (fun i wr => ∃ k : Nat, k ≤ l.length ∧ i = .int .i64 k ∧ Buf 64 w.heap.size w.heap.size [] (Lib.byteCells (textOf (l.take k))) wr ∧ Below w.heap.size w wr) (fun i _ => l.length - (intOf i).toNat)
  case atStart => exact ⟨0, by omega, rfl, .inl ⟨Nat.le_refl _, .slice none 0 0, heap_alloc_new _ _, own_nil_row _ _, by simp [Value.ownBlock], fun _ => rfl⟩, (Below.refl _ _).alloc (Nat.le_refl _) _⟩
  case round =>
    obtain ⟨k, hk, rfl, hbuf, hb⟩ := hrel
    have hlen := textOf_len (l.take k) (fun t ht => HL.out t (List.mem_of_mem_take ht))
    rw [List.length_take, Nat.min_eq_left hk] at hlen
    by_cases hlt : k < l.length
    · obtain ⟨b, o, rfl, hbl, ht⟩ := hR k hlt
      have ht1 := ht.below hb
      have c0 := ht1.c0
      have c1 := ht1.c1
      have c2 := ht1.c2
      have c3 := ht1.c3
      have c4 := ht1.c4
      have h100 := HL.out l[k] (List.getElem_mem hlt)
      by_cases h0 : 0 < k
      · have HS := Lib.hid (textOf_take l k hlt h0)
        go_wp2_with fail
        have hblk := heap_alloc_new wr (Obj.cells #[Value.int IntKind.u8 l[k].kind, Value.string l[k].text, Value.int IntKind.i64 l[k].num, Value.int IntKind.i64 l[k].line, Value.int IntKind.i64 l[k].col] 36)
        have hbuf1 := hbuf.alloc (Obj.cells #[Value.int IntKind.u8 l[k].kind, Value.string l[k].text, Value.int IntKind.i64 l[k].num, Value.int IntKind.i64 l[k].line, Value.int IntKind.i64 l[k].col] 36)
        have hb1 := hb.alloc hb.size (Obj.cells #[Value.int IntKind.u8 l[k].kind, Value.string l[k].text, Value.int IntKind.i64 l[k].num, Value.int IntKind.i64 l[k].line, Value.int IntKind.i64 l[k].col] 36)
        have hne : wr.heap.size ≠ w.heap.size := by have := hbuf.lt; omega
        generalize (wr.alloc (Obj.cells #[Value.int IntKind.u8 l[k].kind, Value.string l[k].text, Value.int IntKind.i64 l[k].num, Value.int IntKind.i64 l[k].line, Value.int IntKind.i64 l[k].col] 36)) = w1 at *
        refine (writeByte_buf 64 w.heap.size w.heap.size [] _ 32 w1 hbuf1 lies_builder (by decide) (by rw [Lib.byteCells_length]; omega) hb1.size).mono ?_
        rintro e w2 ⟨rfl, hbuf2, hb2, hk2⟩
        have hblk2 := hk2.block hblk hne (by decide)
        have d1 : w2.cell? ⟨wr.heap.size, 1, none⟩ = some (.string l[k].text) := by rw [Lib.cell_of_heap hblk2]; rfl
        have hbb2 := hb1.trans hb2
        clear hk2 hblk2 hblk hbuf1 hb1 hb2 hne
        go_wp2_with fail
        refine (writeString_buf 64 w.heap.size w.heap.size [] _ l[k].text w2 hbuf2 lies_builder (by decide) (by simp [Lib.byteCells_length]; omega) hbb2.size).mono ?_
        rintro e w3 ⟨rfl, hbuf3, hb3, hk3⟩
        have hbb3 := hbb2.trans hb3
        clear hk3 hb3
        go_wp2_with fail
        go_roundw
        case rel =>
          refine ⟨k + 1, by omega, by go_num, ?_, hbb3⟩
          rw [HS.out]
          have e : Lib.byteCells (textOf (l.take k)) ++ [Value.int IntKind.u8 32] ++ Lib.strCells l[k].text = Lib.byteCells (textOf (l.take k) ++ 32 :: l[k].text.data.toList) := by
            rw [strCells_bytes]
            simp [Lib.byteCells]
          rw [← e]; exact hbuf3
        case measure => simp [intOf]; omega
      · obtain rfl : k = 0 := by omega
        have HS := Lib.hid (textOf_one l hlt)
        rw [List.take_zero] at hlen hbuf
        simp only [Nat.zero_mul, Nat.add_zero] at c0 c1 c2 c3 c4
        go_wp2_with fail
        have hblk := heap_alloc_new wr (Obj.cells #[Value.int IntKind.u8 l[0].kind, Value.string l[0].text, Value.int IntKind.i64 l[0].num, Value.int IntKind.i64 l[0].line, Value.int IntKind.i64 l[0].col] 36)
        have hbuf1 := hbuf.alloc (Obj.cells #[Value.int IntKind.u8 l[0].kind, Value.string l[0].text, Value.int IntKind.i64 l[0].num, Value.int IntKind.i64 l[0].line, Value.int IntKind.i64 l[0].col] 36)
        have hb1 := hb.alloc hb.size (Obj.cells #[Value.int IntKind.u8 l[0].kind, Value.string l[0].text, Value.int IntKind.i64 l[0].num, Value.int IntKind.i64 l[0].line, Value.int IntKind.i64 l[0].col] 36)
        generalize (wr.alloc (Obj.cells #[Value.int IntKind.u8 l[0].kind, Value.string l[0].text, Value.int IntKind.i64 l[0].num, Value.int IntKind.i64 l[0].line, Value.int IntKind.i64 l[0].col] 36)) = w1 at *
        have d1 : w1.cell? ⟨wr.heap.size, 1, none⟩ = some (.string l[0].text) := by rw [Lib.cell_of_heap hblk]; rfl
        refine (writeString_buf 64 w.heap.size w.heap.size [] _ l[0].text w1 hbuf1 lies_builder (by decide) (by simp [Lib.byteCells_length]; omega) hb1.size).mono ?_
        rintro e w3 ⟨rfl, hbuf3, hb3, hk3⟩
        have hbb3 := hb1.trans hb3
        clear hk3 hb3 hbuf1 hblk
        go_wp2_with fail
        go_roundw
        case rel =>
          refine ⟨1, by omega, by go_num, ?_, hbb3⟩
          rw [HS.out]
          have e : Lib.byteCells (textOf []) ++ Lib.strCells l[0].text = Lib.byteCells (l[0].text.data.toList) := by
            rw [strCells_bytes]
            rfl
          rw [← e]; exact hbuf3
        case measure => simp [intOf]; omega
    · obtain rfl : k = l.length := by omega
      have HR := Lib.hid hR
      clear hR
      rw [List.take_length] at hbuf hlen
      go_wp2_with fail
      refine (string_buf 64 w.heap.size w.heap.size [] (textOf l) wr hbuf).mono ?_
      rintro e w3 ⟨rfl, hb3⟩
      have hbb := hb.trans hb3
      clear hb3 hb hbuf
      go_wp2_with fail
      go_ret
      exact ⟨rfl, hbb⟩
end Go.Proofs.YtjfoinikdifgmaaDoor
