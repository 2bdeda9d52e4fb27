/- The walk of dispatcherlaw05.awake. -/
import Derived.Test.YtaanhkepimjelaaDoorCodeW
namespace Go.Proofs.YtaanhkepimjelaaDoor
open Go.RowKit Go.Sort
set_option linter.unusedVariables false
set_option linter.unusedSimpArgs false

theorem lit_cell {w : World} {cs : Array Value} {t : TypeId} (j : Nat) (v : Value) (h : cs[j]? = some v) : (w.alloc (.cells cs t)).cell? ⟨w.heap.size, j, none⟩ = some v := by rw [World.cell?_alloc_new, h]

set_option maxHeartbeats 8000000 in
set_option maxRecDepth 100000 in
theorem awake_any (w : World) (hT : CodeTabs w) : Calls Tryd.prog 9 #[] w fun e w' => e = .returned (.bool true) ∧ Below w.heap.size w w' := by
  have HT := Lib.hid hT
  clear hT
  go_enter Tryd.func9, Tryd.ntmps9
  go_wp2_with fail
  have hb1 : Below w.heap.size w (w.alloc (.cells #[.int .i64 1, .int .i64 7, .int .i64 3, .int .i64 0, .int .i64 29, .int .i64 0] 2)) := (Below.refl _ _).alloc (Nat.le_refl _) _
  refine (row_any [⟨1, 7⟩, ⟨3, 0⟩, ⟨29, 0⟩] w.heap.size 6 6 (w.alloc (.cells #[.int .i64 1, .int .i64 7, .int .i64 3, .int .i64 0, .int .i64 29, .int .i64 0] 2)) rfl (by decide) (by simp [Ins.Ok]) (by simp) (fun k hk => ?_)).mono ?_
  · match k, hk with
    | 0, _ => exact ⟨lit_cell 0 _ rfl, lit_cell 1 _ rfl⟩
    | 1, _ => exact ⟨lit_cell 2 _ rfl, lit_cell 3 _ rfl⟩
    | 2, _ => exact ⟨lit_cell 4 _ rfl, lit_cell 5 _ rfl⟩
  generalize w.alloc (.cells #[.int .i64 1, .int .i64 7, .int .i64 3, .int .i64 0, .int .i64 29, .int .i64 0] 2) = w1 at *
  rintro e w2 ⟨v, rfl, hown, hb2⟩
  obtain ⟨A, c, rfl, hI⟩ := cpIn_lit (n := 1) hown (by simp [Ins.Ok]) (by decide)
  have hbw2 := hb1.trans (hb2.mono hb1.size)
  have HI := Lib.hid hI
  clear hI hown hb2 hb1
  go_wp2_with fail
  have hb3 : Below w2.heap.size w2 (w2.alloc (.cells #[.slice A 3 c, .int .i64 1, .slice none 0 0] 25)) := (Below.refl _ _).alloc (Nat.le_refl _) _
  have hP3 : PgAt (w2.alloc (.cells #[.slice A 3 c, .int .i64 1, .slice none 0 0] 25)) w2.heap.size A 3 c 1 none 0 0 := PgAt.new
  generalize w2.alloc (.cells #[.slice A 3 c, .int .i64 1, .slice none 0 0] 25) = w3 at *
  refine (heights_any A none c 0 awA w3 (HI.out.below hb3)).mono ?_
  rintro e w4 ⟨h, hb4⟩
  have hP4 := hP3.below hb4
  have hbw4 := hb3.trans (hb4.mono hb3.size)
  clear hb3 hb4 hP3
  rcases h with ⟨b, l, _, ht, rfl, _, hbl⟩ | ⟨hbad, _⟩
  case inr => exact absurd awA_may (Cp.may_not hbad)
  obtain rfl := ht.one awA_told
  have q0 := hP4.g0
  have q1 := hP4.g1
  have q2 := hP4.g2
  have HBW4 := Lib.hid hbw4
  have HBL := Lib.hid hbl
  have HP4 := Lib.hid hP4
  clear hP4 hbw4 hbl ht
  go_wp2_with fail
  refine (text_any A none c 0 awA w4 (HI.out.below HBW4.out) (HT.out.below (hbw2.trans (HBW4.out.mono hbw2.size)))).mono ?_
  rintro e w5 ⟨h, _, hb5⟩
  obtain rfl := h awA_may
  rw [awA_text]
  have hbl5 := HBL.out.below hb5
  have d0 := hbl5.get 0 (by decide)
  have d1 := hbl5.get 1 (by decide)
  have d2 := hbl5.get 2 (by decide)
  simp only [List.getElem_cons_zero, List.getElem_cons_succ] at d0 d1 d2
  have hbw5 := hbw2.trans ((HBW4.out.mono hbw2.size).trans (hb5.mono (Nat.le_trans hbw2.size HBW4.out.size)))
  clear hbl5 hb5 h q0 q1 q2 HI HBL HP4 HBW4 hbw2
  have HBW5 := Lib.hid hbw5
  clear hbw5
  go_wp2_with fail
  clear d0 d1 d2
  have hb6 : Below w5.heap.size w5 (w5.alloc (.cells #[.int .i64 13, .int .i64 0, .int .i64 29, .int .i64 0] 2)) := (Below.refl _ _).alloc (Nat.le_refl _) _
  refine (row_any [⟨13, 0⟩, ⟨29, 0⟩] w5.heap.size 4 4 (w5.alloc (.cells #[.int .i64 13, .int .i64 0, .int .i64 29, .int .i64 0] 2)) rfl (by decide) (by simp [Ins.Ok]) (by simp) (fun k hk => ?_)).mono ?_
  · match k, hk with
    | 0, _ => exact ⟨lit_cell 0 _ rfl, lit_cell 1 _ rfl⟩
    | 1, _ => exact ⟨lit_cell 2 _ rfl, lit_cell 3 _ rfl⟩
  generalize w5.alloc (.cells #[.int .i64 13, .int .i64 0, .int .i64 29, .int .i64 0] 2) = w6 at *
  rintro e w7 ⟨v, rfl, hown, hb7⟩
  obtain ⟨A2, c2, rfl, hI2⟩ := cpIn_lit (n := 0) hown (by simp [Ins.Ok]) (by decide)
  have HI2 := Lib.hid hI2
  have HBW7 := Lib.hid (HBW5.out.trans ((hb6.trans (hb7.mono hb6.size)).mono HBW5.out.size))
  clear hI2 hown hb7 hb6
  go_wp2_with fail
  refine (may_any A2 none c2 0 awB w7 HI2.out).mono ?_
  rintro e w8 ⟨rfl, hb8⟩
  rw [Cp.mayB_false awB_not]
  have HBW8 := Lib.hid (HBW7.out.trans (hb8.mono HBW7.out.size))
  clear hb8 HI2
  go_wp2_with fail
  have hb9 : Below w8.heap.size w8 (w8.alloc (.cells #[.int .i64 22, .int .i64 0] 2)) := (Below.refl _ _).alloc (Nat.le_refl _) _
  refine (row_any [⟨22, 0⟩] w8.heap.size 2 2 (w8.alloc (.cells #[.int .i64 22, .int .i64 0] 2)) rfl (by decide) (by simp [Ins.Ok]) (by simp) (fun k hk => ?_)).mono ?_
  · match k, hk with
    | 0, _ => exact ⟨lit_cell 0 _ rfl, lit_cell 1 _ rfl⟩
  generalize w8.alloc (.cells #[.int .i64 22, .int .i64 0] 2) = w9 at *
  rintro e wa ⟨v, rfl, hown, hba⟩
  obtain ⟨A3, c3, rfl, hI3⟩ := cpIn_lit (n := 0) hown (by simp [Ins.Ok]) (by decide)
  have HI3 := Lib.hid hI3
  have HBWA := Lib.hid (HBW8.out.trans ((hb9.trans (hba.mono hb9.size)).mono HBW8.out.size))
  clear hI3 hown hba hb9
  go_wp2_with fail
  refine (may_any A3 none c3 0 awC wa HI3.out).mono ?_
  rintro e wb ⟨rfl, hbb⟩
  rw [Cp.mayB_false awC_not]
  have HBWB := Lib.hid (HBWA.out.trans (hbb.mono HBWA.out.size))
  clear hbb HI3
  go_wp2_with fail
  go_ret
  exact ⟨rfl, HBWB.out⟩
end Go.Proofs.YtaanhkepimjelaaDoor
