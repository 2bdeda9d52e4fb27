/- The walk of call.uses: what kinds use, as a map. -/
import Derived.Test.YtgphigpbgiceiaaGreatDoorPk0
import Derived.MapKept
import Derived.Deep.Cut
namespace Go.Proofs.YtgphigpbgiceiaaGreatDoor
open Go.RowKit Go.Sort
set_option linter.unusedVariables false
set_option linter.unusedSimpArgs false

def intsObj (l : List Int) : Obj := .cells (l.map (Value.int .i64)).toArray 3 (0, 0)
/-- A map keyed by bytes in block r, made since w0; beside it rows of whole numbers. -/
structure InMap (w0 : World) (r : Nat) (L : List MapEntry) (S : List (Nat × List Int)) (w : World) : Prop where
  block : w.heap[r]? = some (.map L.toArray L.length)
  below : Below w0.heap.size w0 w
  rows : ∀ x ∈ S, x.1 ≠ r ∧ w.heap[x.1]? = some (intsObj x.2)
theorem InMap.put {w0 w : World} {r : Nat} {L : List MapEntry} {S : List (Nat × List Int)} (h : InMap w0 r L S w) (hr : w0.heap.size ≤ r) (k : Int) (v : Value) (hne : Instr.findNow (.int .u8) (.int .u8 k) L 0 = some none) :
    ∃ w', (Instr.mapUpdate 47 (.map (some r)) (.int .u8 k) v).run Tryz.prog w = .ok () w' ∧ InMap w0 r (L ++ [(⟨.int .u8 k, v, L.length⟩ : MapEntry)]) S w' := by
  have hk := Tryz.underlying5
  have hm := Tryz.underlying47
  have hc : (Instr.checkKey false 10000 5 (.int .u8 k)).run Tryz.prog w = .ok () w := MapKept.run_checkKey (k := .int .u8 k) hk (by simp [MapKept.IsKey]) false 9999
  have hlt : r < w.heap.size := (Array.getElem?_eq_some_iff.1 h.block).1
  refine ⟨{ w with heap := w.heap.setIfInBounds r (.map (L ++ [(⟨.int .u8 k, v, L.length⟩ : MapEntry)]).toArray (L.length + 1)) }, ?_, ?_, ?_, ?_⟩
  · have hn2 : Instr.findNow (.int .u8) (.int .u8 k) L.toArray.toList 0 = some none := by simpa using hne
    simp [Instr.mapUpdate, run_underlying hm, MapKept.run_getObj_map h.block, hc, MapKept.run_findKey hk hn2, MapKept.run_setObj_map _ h.block, Result.andThen]
  · simp [hlt]
  · refine ⟨h.below.os, h.below.tape, h.below.output, by simpa using h.below.size, fun j hj => ?_⟩
    have hne : r ≠ j := by omega
    show (w.heap.setIfInBounds r _)[j]? = _
    rw [Array.getElem?_setIfInBounds_ne hne]
    exact h.below.block j hj
  · intro x hx
    obtain ⟨h1, h2⟩ := h.rows x hx
    refine ⟨h1, ?_⟩
    show (w.heap.setIfInBounds r _)[x.1]? = _
    rw [Array.getElem?_setIfInBounds_ne (Ne.symm h1)]
    exact h2
theorem InMap.lay {w0 w : World} {r : Nat} {L : List MapEntry} {S : List (Nat × List Int)} (h : InMap w0 r L S w) (l : List Int) : InMap w0 r L ((w.heap.size, l) :: S) (w.alloc (intsObj l)) := by
  have hlt : r < w.heap.size := (Array.getElem?_eq_some_iff.1 h.block).1
  refine ⟨(heap_alloc_old w _ hlt).trans h.block, h.below.alloc h.below.size _, fun x hx => ?_⟩
  rcases List.mem_cons.1 hx with rfl | hx
  · exact ⟨by show w.heap.size ≠ r; omega, heap_alloc_new w _⟩
  · obtain ⟨h1, h2⟩ := h.rows x hx
    exact ⟨h1, (heap_alloc_old w _ (Array.getElem?_eq_some_iff.1 h2).1).trans h2⟩
theorem InMap.later {w0 w w' : World} {r : Nat} {L : List MapEntry} {S : List (Nat × List Int)} (h : InMap w0 r L S w) (hb : Below w.heap.size w w') : InMap w0 r L S w' :=
  ⟨(hb.block r (Array.getElem?_eq_some_iff.1 h.block).1).trans h.block, h.below.trans (hb.mono h.below.size), fun x hx => ⟨(h.rows x hx).1, (hb.block x.1 (Array.getElem?_eq_some_iff.1 (h.rows x hx).2).1).trans (h.rows x hx).2⟩⟩
structure RowsIn (w0 : World) (S : List (Nat × List Int)) (w : World) : Prop where
  below : Below w0.heap.size w0 w
  rows : ∀ x ∈ S, w.heap[x.1]? = some (intsObj x.2)
theorem RowsIn.lay {w0 w : World} {S : List (Nat × List Int)} (h : RowsIn w0 S w) (l : List Int) : RowsIn w0 ((w.heap.size, l) :: S) (w.alloc (intsObj l)) := by
  refine ⟨h.below.alloc h.below.size _, fun x hx => ?_⟩
  rcases List.mem_cons.1 hx with rfl | hx
  · exact heap_alloc_new w _
  · have h2 := h.rows x hx
    exact (heap_alloc_old w _ (Array.getElem?_eq_some_iff.1 h2).1).trans h2
theorem RowsIn.map {w0 w : World} {S : List (Nat × List Int)} (h : RowsIn w0 S w) : InMap w0 w.heap.size [] S (w.alloc (.map #[] 0)) := by
  refine ⟨heap_alloc_new w _, h.below.alloc h.below.size _, fun x hx => ?_⟩
  have h2 := h.rows x hx
  have hlt := (Array.getElem?_eq_some_iff.1 h2).1
  exact ⟨by omega, (heap_alloc_old w _ hlt).trans h2⟩
def sl (b n : Nat) : Value := .slice (some ⟨b, 0, none⟩) n n

/-- The entries. -/
def usesEnts (a b c d e f g h : Nat) : List MapEntry := [⟨.int .u8 1, sl a 5, 0⟩, ⟨.int .u8 2, sl a 5, 1⟩, ⟨.int .u8 3, sl a 5, 2⟩, ⟨.int .u8 4, sl a 5, 3⟩, ⟨.int .u8 5, sl a 5, 4⟩, ⟨.int .u8 6, sl b 3, 5⟩, ⟨.int .u8 7, sl b 3, 6⟩, ⟨.int .u8 13, sl b 3, 7⟩, ⟨.int .u8 14, sl b 3, 8⟩, ⟨.int .u8 8, sl c 1, 9⟩, ⟨.int .u8 9, sl c 1, 10⟩, ⟨.int .u8 10, sl c 1, 11⟩, ⟨.int .u8 11, sl c 1, 12⟩, ⟨.int .u8 12, sl c 1, 13⟩, ⟨.int .u8 15, sl d 1, 14⟩, ⟨.int .u8 20, sl d 1, 15⟩, ⟨.int .u8 22, sl d 1, 16⟩, ⟨.int .u8 16, sl e 3, 17⟩, ⟨.int .u8 19, sl e 3, 18⟩, ⟨.int .u8 17, sl f 4, 19⟩, ⟨.int .u8 18, sl g 3, 20⟩, ⟨.int .u8 21, sl h 3, 21⟩]
def usesRows (a b c d e f g h : Nat) : List (Nat × List Int) := [(h, [0, 6, 7]), (g, [0, 3, 9]), (f, [0, 5, 3, 9]), (e, [0, 5, 3]), (d, [0]), (c, [8]), (b, [0, 1, 2]), (a, [0, 1, 2, 3, 4])]

set_option maxHeartbeats 8000000 in
set_option maxRecDepth 100000 in
theorem uses_any (w : World) : Calls Tryz.prog 17 #[] w fun e w' => ∃ (r a b c d x f g h : Nat), e = .returned (.map (some r)) ∧ InMap w r (usesEnts a b c d x f g h) (usesRows a b c d x f g h) w' ∧ Below w.heap.size w w' := by
  have hmm := @run_makeMap Tryz.prog
  obtain ⟨wa, hwa⟩ : ∃ y, y = w.alloc (.cells #[.int .i64 0, .int .i64 1, .int .i64 2, .int .i64 3, .int .i64 4] 3) := ⟨_, rfl⟩
  obtain ⟨wb, hwb⟩ : ∃ y, y = wa.alloc (.cells #[.int .i64 0, .int .i64 1, .int .i64 2] 3) := ⟨_, rfl⟩
  obtain ⟨wc, hwc⟩ : ∃ y, y = wb.alloc (.cells #[.int .i64 8] 3) := ⟨_, rfl⟩
  obtain ⟨wd, hwd⟩ : ∃ y, y = wc.alloc (.cells #[.int .i64 0] 3) := ⟨_, rfl⟩
  obtain ⟨we, hwe⟩ : ∃ y, y = wd.alloc (.cells #[.int .i64 0, .int .i64 5, .int .i64 3] 3) := ⟨_, rfl⟩
  obtain ⟨w0, hw0⟩ : ∃ y, y = we.alloc (.map #[] 0) := ⟨_, rfl⟩
  have hr0 : RowsIn w [] w := ⟨Below.refl _ _, fun x hx => by cases hx⟩
  have hr5 := ((((hr0.lay [0, 1, 2, 3, 4]).lay [0, 1, 2]).lay [8]).lay [0]).lay [0, 5, 3]
  have hin0 := hr5.map
  have hrw0 := hr5.below.size
  simp only [intsObj, List.map_cons, List.map_nil] at hin0 hrw0
  rw [← hwa, ← hwb, ← hwc, ← hwd, ← hwe, ← hw0] at hin0
  rw [← hwa, ← hwb, ← hwc, ← hwd, ← hwe] at hrw0
  have za : wa.heap.size = w.heap.size + 1 := by rw [hwa]; simp
  have zb : wb.heap.size = w.heap.size + 1 + 1 := by rw [hwb]; simp [za]
  have zc : wc.heap.size = w.heap.size + 1 + 1 + 1 := by rw [hwc]; simp [zb]
  have zd : wd.heap.size = w.heap.size + 1 + 1 + 1 + 1 := by rw [hwd]; simp [zc]
  have hmk : (Instr.makeMap 47 none).run Tryz.prog we = .ok (.map (some we.heap.size)) w0 := by rw [hw0]; exact hmm _ _
  rw [za, zb, zc, zd] at hin0
  clear hr0 hr5 hmm
  go_enter Tryz.func17, Tryz.ntmps17
  go_upto_region 2 with fail
  rw [← hwa, ← hwb, ← hwc, ← hwd, ← hwe]
  clear hwa hwb hwc hwd hwe hw0 za zb zc zd
  generalize w.heap.size + 1 + 1 + 1 + 1 = x at *
  generalize w.heap.size + 1 + 1 + 1 = d at *
  generalize w.heap.size + 1 + 1 = c at *
  generalize w.heap.size + 1 = b at *
  generalize we.heap.size = r at *

  obtain ⟨w1, E1, hin1⟩ := hin0.put hrw0 1 (.slice (some ⟨w.heap.size, 0, none⟩) 5 5) rfl
  simp only [List.nil_append, List.cons_append, List.length_cons, List.length_nil] at hin1
  obtain ⟨w2, E2, hin2⟩ := hin1.put hrw0 2 (.slice (some ⟨w.heap.size, 0, none⟩) 5 5) rfl
  simp only [List.nil_append, List.cons_append, List.length_cons, List.length_nil] at hin2
  obtain ⟨w3, E3, hin3⟩ := hin2.put hrw0 3 (.slice (some ⟨w.heap.size, 0, none⟩) 5 5) rfl
  simp only [List.nil_append, List.cons_append, List.length_cons, List.length_nil] at hin3
  obtain ⟨w4, E4, hin4⟩ := hin3.put hrw0 4 (.slice (some ⟨w.heap.size, 0, none⟩) 5 5) rfl
  simp only [List.nil_append, List.cons_append, List.length_cons, List.length_nil] at hin4
  obtain ⟨w5, E5, hin5⟩ := hin4.put hrw0 5 (.slice (some ⟨w.heap.size, 0, none⟩) 5 5) rfl
  simp only [List.nil_append, List.cons_append, List.length_cons, List.length_nil] at hin5
  obtain ⟨w6, E6, hin6⟩ := hin5.put hrw0 6 (.slice (some ⟨b, 0, none⟩) 3 3) rfl
  simp only [List.nil_append, List.cons_append, List.length_cons, List.length_nil] at hin6
  obtain ⟨w7, E7, hin7⟩ := hin6.put hrw0 7 (.slice (some ⟨b, 0, none⟩) 3 3) rfl
  simp only [List.nil_append, List.cons_append, List.length_cons, List.length_nil] at hin7
  obtain ⟨w8, E8, hin8⟩ := hin7.put hrw0 13 (.slice (some ⟨b, 0, none⟩) 3 3) rfl
  simp only [List.nil_append, List.cons_append, List.length_cons, List.length_nil] at hin8
  obtain ⟨w9, E9, hin9⟩ := hin8.put hrw0 14 (.slice (some ⟨b, 0, none⟩) 3 3) rfl
  simp only [List.nil_append, List.cons_append, List.length_cons, List.length_nil] at hin9
  obtain ⟨w10, E10, hin10⟩ := hin9.put hrw0 8 (.slice (some ⟨c, 0, none⟩) 1 1) rfl
  simp only [List.nil_append, List.cons_append, List.length_cons, List.length_nil] at hin10
  obtain ⟨w11, E11, hin11⟩ := hin10.put hrw0 9 (.slice (some ⟨c, 0, none⟩) 1 1) rfl
  simp only [List.nil_append, List.cons_append, List.length_cons, List.length_nil] at hin11
  obtain ⟨w12, E12, hin12⟩ := hin11.put hrw0 10 (.slice (some ⟨c, 0, none⟩) 1 1) rfl
  simp only [List.nil_append, List.cons_append, List.length_cons, List.length_nil] at hin12
  obtain ⟨w13, E13, hin13⟩ := hin12.put hrw0 11 (.slice (some ⟨c, 0, none⟩) 1 1) rfl
  simp only [List.nil_append, List.cons_append, List.length_cons, List.length_nil] at hin13
  obtain ⟨w14, E14, hin14⟩ := hin13.put hrw0 12 (.slice (some ⟨c, 0, none⟩) 1 1) rfl
  simp only [List.nil_append, List.cons_append, List.length_cons, List.length_nil] at hin14
  obtain ⟨w15, E15, hin15⟩ := hin14.put hrw0 15 (.slice (some ⟨d, 0, none⟩) 1 1) rfl
  simp only [List.nil_append, List.cons_append, List.length_cons, List.length_nil] at hin15
  obtain ⟨w16, E16, hin16⟩ := hin15.put hrw0 20 (.slice (some ⟨d, 0, none⟩) 1 1) rfl
  simp only [List.nil_append, List.cons_append, List.length_cons, List.length_nil] at hin16
  obtain ⟨w17, E17, hin17⟩ := hin16.put hrw0 22 (.slice (some ⟨d, 0, none⟩) 1 1) rfl
  simp only [List.nil_append, List.cons_append, List.length_cons, List.length_nil] at hin17
  obtain ⟨w18, E18, hin18⟩ := hin17.put hrw0 16 (.slice (some ⟨x, 0, none⟩) 3 3) rfl
  simp only [List.nil_append, List.cons_append, List.length_cons, List.length_nil] at hin18
  obtain ⟨w19, E19, hin19⟩ := hin18.put hrw0 19 (.slice (some ⟨x, 0, none⟩) 3 3) rfl
  simp only [List.nil_append, List.cons_append, List.length_cons, List.length_nil] at hin19
  have hl19 := hin19.lay [0, 5, 3, 9]
  simp only [intsObj, List.map_cons, List.map_nil] at hl19
  obtain ⟨w20, E20, hin20⟩ := hl19.put hrw0 17 (.slice (some ⟨w19.heap.size, 0, none⟩) 4 4) rfl
  simp only [List.nil_append, List.cons_append, List.length_cons, List.length_nil] at hin20
  have hl20 := hin20.lay [0, 3, 9]
  simp only [intsObj, List.map_cons, List.map_nil] at hl20
  obtain ⟨w21, E21, hin21⟩ := hl20.put hrw0 18 (.slice (some ⟨w20.heap.size, 0, none⟩) 3 3) rfl
  simp only [List.nil_append, List.cons_append, List.length_cons, List.length_nil] at hin21
  have hl21 := hin21.lay [0, 6, 7]
  simp only [intsObj, List.map_cons, List.map_nil] at hl21
  obtain ⟨w22, E22, hin22⟩ := hl21.put hrw0 21 (.slice (some ⟨w21.heap.size, 0, none⟩) 3 3) rfl
  simp only [List.nil_append, List.cons_append, List.length_cons, List.length_nil] at hin22
  clear hin0 hin1 hin2 hin3 hin4 hin5 hin6 hin7 hin8 hin9 hin10 hin11 hin12 hin13 hin14 hin15 hin16 hin17 hin18 hin19 hin20 hin21
  have HIN := Lib.hid hin22
  clear hin22 hrw0
  go_wp2_with fail
  go_ret
  exact ⟨r, w.heap.size, b, c, d, x, _, _, _, rfl, HIN.out, HIN.out.below⟩
end Go.Proofs.YtgphigpbgiceiaaGreatDoor
