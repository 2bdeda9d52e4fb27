/- The walks of told, awake: the chapter's examples. -/
import Derived.Test.YtjfoinikdifgmaaDoorScanA
import Derived.Test.YtjfoinikdifgmaaDoorOwn
import Derived.Test.YtjfoinikdifgmaaDoorStrTabs
import Derived.Lib.ConvBytes
import Derived.Lib.SlBytesConst
namespace Go.Proofs.YtjfoinikdifgmaaDoor
open Go.RowKit
set_option linter.unusedVariables false
set_option linter.unusedSimpArgs false

/-- '[]byte(s)'. -/
theorem text_bytes (w : World) (s : ByteArray) : ∃ c w', (convert 9 27 (.string s)).run Tryd.prog w = .ok (.slice (some ⟨w.heap.size, 0, none⟩) s.size c) w' ∧ ByteRow w' (some ⟨w.heap.size, 0, none⟩) s.data.toList ∧ Below w.heap.size w w' := by
  refine ⟨_, _, Lib.run_convert_string_bytes (P := Tryd.prog) w 9 27 5 s Tryd.underlying9 Tryd.underlying27 Tryd.underlying5, fun k hk => ?_, Go.Joins.below_bytesWorld _ _ _ _ (Nat.le_refl _)⟩
  have hk' : k < s.size := by simpa using hk
  refine ⟨w.heap.size, 0, rfl, by rw [Lib.bytesWorld_size]; omega, ?_⟩
  rw [Nat.zero_add, Lib.bytesWorld_cell w _ s k hk', List.getD_eq_getElem?_getD, List.getElem?_eq_getElem hk]
  rfl

set_option maxHeartbeats 2000000 in
set_option maxRecDepth 100000 in
theorem told_any (s : ByteArray) (a b : Int) (w : World) (hs : s.size ≤ 9223372036854775807) (h : scanOf s.data.toList = ([], a, b, 10)) (hT : ScanTabs w) (hS : StrTabs w) :
    Calls Tryd.prog 40 #[.string s, .int .i64 a, .int .i64 b] w fun e w' => e = .returned (.bool true) ∧ Below w.heap.size w w' := by
  obtain ⟨c, w1, hcv, hR, hb⟩ := text_bytes w s
  have hlen : s.data.toList.length = s.size := by simp
  have hsc := scan_any (some ⟨w.heap.size, 0, none⟩) c s.data.toList w1 hR (by omega) (hT.below hb) (hS.below hb)
  rw [hlen] at hsc
  have HSC := Lib.hid hsc
  have HH := Lib.hid h
  have HB := Lib.hid hb
  clear hsc h hT hS hb hR hlen
  go_enter Tryd.func40, Tryd.ntmps40
  go_wp2_with fail
  refine HSC.out.mono ?_
  rintro e w2 ⟨⟨v, rfl, hown⟩, hb⟩
  rw [HH.out] at hown ⊢
  have HB2 := Lib.hid (HB.out.trans (hb.mono HB.out.size))
  rcases own_form hown with ⟨rfl, _⟩ | ⟨g, cap, rfl, _, _⟩
  · clear hown hb hcv
    go_wp2_with fail
    go_ret
    exact ⟨rfl, HB2.out⟩
  · clear hown hb hcv
    go_wp2_with fail
    go_ret
    exact ⟨rfl, HB2.out⟩

def awakeText : List UInt8 := [97, 60, 61, 45, 98, 32, 35, 32, 99, 10, 105, 102]
def awakeToks : List Tok := [⟨1, ⟨#[97]⟩, 0, 1, 1⟩, ⟨4, ⟨#[60, 61]⟩, 0, 1, 2⟩, ⟨4, ⟨#[45]⟩, 0, 1, 4⟩, ⟨1, ⟨#[98]⟩, 0, 1, 5⟩, ⟨3, ⟨#[105, 102]⟩, 0, 2, 1⟩]
set_option maxRecDepth 100000 in
theorem awake_scan : scanOf awakeText = (awakeToks, 0, 0, 0) := by kernel_rfl
set_option maxRecDepth 100000 in
theorem awake_t1 : scanOf [120, 49, 32, 61, 32, 48, 55] = ([], 1, 6, 10) := by kernel_rfl
set_option maxRecDepth 100000 in
theorem awake_t2 : scanOf [38] = ([], 1, 1, 10) := by kernel_rfl
set_option maxRecDepth 100000 in
theorem awake_t3 : scanOf [97, 66] = ([], 1, 2, 10) := by kernel_rfl

set_option maxHeartbeats 4000000 in
set_option maxRecDepth 100000 in
theorem awake_any (w : World) (hT : ScanTabs w) (hS : StrTabs w) :
    Calls Tryd.prog 23 #[] w fun e w' => e = .returned (.bool true) ∧ Below w.heap.size w w' := by
  have kc := fun (w : World) (C : Array Value) (n c : Nat) => Lib.run_convert_bytes_const (P := Tryd.prog) w 27 5 C n c Tryd.underlying27 Tryd.underlying5
  have HT := Lib.hid hT
  have HST := Lib.hid hS
  clear hT hS
  go_enter Tryd.func23, Tryd.ntmps23
  go_wp2_with fail
  have hb1 : Below w.heap.size w (w.alloc (Obj.cells #[Value.int IntKind.u8 97, Value.int IntKind.u8 60, Value.int IntKind.u8 61, Value.int IntKind.u8 45, Value.int IntKind.u8 98, Value.int IntKind.u8 32, Value.int IntKind.u8 35, Value.int IntKind.u8 32, Value.int IntKind.u8 99, Value.int IntKind.u8 10, Value.int IntKind.u8 105, Value.int IntKind.u8 102] 5 (12, 13))) := (Below.refl _ _).alloc (Nat.le_refl _) _
  have hR : ByteRow (w.alloc (Obj.cells #[Value.int IntKind.u8 97, Value.int IntKind.u8 60, Value.int IntKind.u8 61, Value.int IntKind.u8 45, Value.int IntKind.u8 98, Value.int IntKind.u8 32, Value.int IntKind.u8 35, Value.int IntKind.u8 32, Value.int IntKind.u8 99, Value.int IntKind.u8 10, Value.int IntKind.u8 105, Value.int IntKind.u8 102] 5 (12, 13))) (some ⟨w.heap.size, 0, none⟩) awakeText := fun k hk => by
    refine ⟨w.heap.size, 0, rfl, by simp, ?_⟩
    rw [Nat.zero_add, Lib.cell_of_heap (heap_alloc_new w _)]
    have hk12 : k < 12 := hk
    match k, hk12 with
    | 0, _ => rfl
    | 1, _ => rfl
    | 2, _ => rfl
    | 3, _ => rfl
    | 4, _ => rfl
    | 5, _ => rfl
    | 6, _ => rfl
    | 7, _ => rfl
    | 8, _ => rfl
    | 9, _ => rfl
    | 10, _ => rfl
    | 11, _ => rfl
  generalize w.alloc (Obj.cells #[Value.int IntKind.u8 97, Value.int IntKind.u8 60, Value.int IntKind.u8 61, Value.int IntKind.u8 45, Value.int IntKind.u8 98, Value.int IntKind.u8 32, Value.int IntKind.u8 35, Value.int IntKind.u8 32, Value.int IntKind.u8 99, Value.int IntKind.u8 10, Value.int IntKind.u8 105, Value.int IntKind.u8 102] 5 (12, 13)) = w1 at *
  refine (scan_any (some ⟨w.heap.size, 0, none⟩) 12 awakeText w1 hR (by decide) (HT.out.below hb1) (HST.out.below hb1)).mono ?_
  rintro e w2 ⟨⟨v, rfl, hown⟩, hb⟩
  rw [awake_scan] at hown ⊢
  have hbw2 := hb1.trans (hb.mono hb1.size)
  have hown := hown.mono hb1.size
  clear hR hb hb1 kc
  rcases own_form hown with ⟨_, h0⟩ | ⟨g, cap, rfl, hc, _⟩
  · exact absurd h0 (by decide)
  · have hc : 5 ≤ cap := hc
    go_wp2_with fail
    refine (told_any ⟨#[120, 49, 32, 61, 32, 48, 55]⟩ 1 6 w2 (by decide) awake_t1 (HT.out.below hbw2) (HST.out.below hbw2)).mono ?_
    rintro e w3 ⟨rfl, hb⟩
    have hown3 := own_below hown hb
    have hbw3 := hbw2.trans (hb.mono hbw2.size)
    clear hown hb hbw2
    go_wp2_with fail
    refine (told_any ⟨#[38]⟩ 1 1 w3 (by decide) awake_t2 (HT.out.below hbw3) (HST.out.below hbw3)).mono ?_
    rintro e w4 ⟨rfl, hb⟩
    have hown4 := own_below hown3 hb
    have hbw4 := hbw3.trans (hb.mono hbw3.size)
    clear hown3 hb hbw3
    go_wp2_with fail
    refine (told_any ⟨#[97, 66]⟩ 1 2 w4 (by decide) awake_t3 (HT.out.below hbw4) (HST.out.below hbw4)).mono ?_
    rintro e w5 ⟨rfl, hb⟩
    have hown5 := own_below hown4 hb
    have hbw5 := hbw4.trans (hb.mono hbw4.size)
    clear hown4 hb hbw4
    have c0 : w5.cell? ⟨g, 0, none⟩ = some (.int .u8 1) := hown5.cellAt 0 (by decide)
    have c6 : w5.cell? ⟨g, 6, none⟩ = some (.string ⟨#[60, 61]⟩) := hown5.cellAt 6 (by decide)
    have c10 : w5.cell? ⟨g, 10, none⟩ = some (.int .u8 4) := hown5.cellAt 10 (by decide)
    have c11 : w5.cell? ⟨g, 11, none⟩ = some (.string ⟨#[45]⟩) := hown5.cellAt 11 (by decide)
    have c16 : w5.cell? ⟨g, 16, none⟩ = some (.string ⟨#[98]⟩) := hown5.cellAt 16 (by decide)
    have c20 : w5.cell? ⟨g, 20, none⟩ = some (.int .u8 3) := hown5.cellAt 20 (by decide)
    have c21 : w5.cell? ⟨g, 21, none⟩ = some (.string ⟨#[105, 102]⟩) := hown5.cellAt 21 (by decide)
    have c22 : w5.cell? ⟨g, 22, none⟩ = some (.int .i64 0) := hown5.cellAt 22 (by decide)
    have c23 : w5.cell? ⟨g, 23, none⟩ = some (.int .i64 2) := hown5.cellAt 23 (by decide)
    have c24 : w5.cell? ⟨g, 24, none⟩ = some (.int .i64 1) := hown5.cellAt 24 (by decide)
    clear hown5
    go_wp2_with fail
    go_ret
    exact ⟨rfl, hbw5⟩
end Go.Proofs.YtjfoinikdifgmaaDoor
