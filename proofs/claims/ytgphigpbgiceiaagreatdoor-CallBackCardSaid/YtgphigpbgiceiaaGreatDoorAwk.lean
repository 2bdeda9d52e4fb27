/- The walk of dispatcherlaw16.awake: the chapter's examples. -/
import Derived.Test.YtgphigpbgiceiaaGreatDoorParOne
import Derived.Test.YtgphigpbgiceiaaGreatDoorClTrim
import Derived.Test.YtgphigpbgiceiaaGreatDoorCtTold
import Derived.Test.YtgphigpbgiceiaaGreatDoorClRSame
namespace Go.Proofs.YtgphigpbgiceiaaGreatDoor
open Go.RowKit Go.Sort
set_option linter.unusedVariables false
set_option linter.unusedSimpArgs false

abbrev cW0 : Cl := ⟨8, 3, 0, 0, 0, 0, 0, 0, [5], 0, 0⟩
abbrev cW1 : Cl := ⟨8, 0, 0, 0, 0, 0, 0, 0, [5], 0, 0⟩
abbrev cR0 : Cl := ⟨17, 0, 0, 0, -4, 0, 1, 1, [], 0, 0⟩
abbrev cV0 : Cl := ⟨6, 0, -1, 3, 0, 0, 0, 0, [], 0, 0⟩
theorem in12 {n : Int} (h : n ∈ [1, 2]) : In64 n := by
  have h2 : n = 1 ∨ n = 2 := by simpa using h
  unfold In64
  omega
theorem awk_trim : trimF cW0 = cW1 := by rfl
theorem awk_t1 : textB cW1 = true := by kernel_rfl
theorem awk_t2 : (⟨(textOfC cW1).toArray⟩ : ByteArray) = ⟨#[119, 97, 105, 116, 40, 53, 41]⟩ := by kernel_rfl
theorem awk_t3 : textB cR0 = true := by kernel_rfl
theorem awk_t4 : (⟨(textOfC cR0).toArray⟩ : ByteArray) = ⟨#[114, 101, 100, 117, 99, 101, 40, 48, 44, 32, 49, 44, 32, 45, 52, 44, 32, 109, 97, 120, 41]⟩ := by kernel_rfl
theorem awk_t5 : textB cV0 = true := by kernel_rfl
theorem awk_t6 : (⟨(clText cV0 ((usesF cV0.kind).getD [])).toArray⟩ : ByteArray) = ⟨#[114, 101, 99, 118, 40, 48, 44, 32, 45, 49, 44, 32, 51, 41]⟩ := by kernel_rfl
theorem awk_d1 : (⟨(toldF 6 false 7 1 0 0 0 0 []).toArray⟩ : ByteArray) = ⟨#[118, 97, 108, 117, 101, 32, 55, 32, 112, 101, 101, 114, 32, 49, 32, 116, 97, 103, 32, 48]⟩ := by kernel_rfl
theorem awk_d2 : (⟨(toldF 19 false 0 0 0 0 0 0 [1, 2]).toArray⟩ : ByteArray) = ⟨#[114, 111, 119, 32, 49, 32, 50]⟩ := by kernel_rfl
theorem awk_d3 : (⟨(toldF 19 false 0 0 0 0 0 0 []).toArray⟩ : ByteArray) = ⟨#[114, 111, 119]⟩ := by kernel_rfl
set_option maxHeartbeats 16000000 in
set_option maxRecDepth 100000 in
theorem awake16_any (w : World) (hT : TextTabs w) (hP : PowIs w) (hL : PrsTabs w) (hC : CtTabs w) :
    Calls Tryz.prog 6 #[] w fun e w' => e = .returned (.bool true) ∧ Below w.heap.size w w' := by
  have HT := Lib.hid hT
  have HP := Lib.hid hP
  have HL := Lib.hid hL
  have HC := Lib.hid hC
  clear hT hP hL hC
  obtain ⟨w1, hw1⟩ : ∃ y, y = w.alloc (.cells #[.int .i64 5] 3) := ⟨_, rfl⟩
  have e1 : Below w.heap.size w w1 := by rw [hw1]; exact (Below.refl _ _).alloc (Nat.le_refl _) _
  have HR1 := Lib.hid (show IntRow w1 (some ⟨w.heap.size, 0, none⟩) [5] from fun k hk => by
    obtain rfl : k = 0 := by simpa using hk
    exact ⟨_, _, rfl, by rw [hw1]; simp, by rw [hw1]; exact cell_new1 _ _ _⟩)
  have HB1 := Lib.hid e1
  have HTR := Lib.hid (show Calls Tryz.prog 11 #[.agg #[.int .u8 8, .int .i64 3, .int .i64 0, .int .i64 0, .int .i64 0, .int .i64 0, .int .i64 0, .int .u8 0, .slice (some ⟨w.heap.size, 0, none⟩) 1 1, .int .i64 0, .int .i64 0]] w1 fun e w' => ∃ (B : Option Addr) (cb : Nat), e = .returned (.agg (clCells cW1 B cb)) ∧ IntRow w' B [5] ∧ Below w1.heap.size w1 w' from
    (trim_any cW0 (some ⟨w.heap.size, 0, none⟩) 1 w1 HR1.out (by decide) (by decide)).mono fun e w' h => by
      obtain ⟨B, cb, h1, h2, _, h4⟩ := h
      rw [awk_trim] at h1 h2
      exact ⟨B, cb, h1, h2, h4⟩)
  have HW1 := Lib.hid hw1
  clear e1 hw1
  go_enter Tryz.func6, Tryz.ntmps6
  go_upto_region 1 with fail
  go_wp2_with fail
  rw [← HW1.out]
  clear HW1
  refine HTR.out.mono ?_
  rintro e w2 ⟨B, cb, rfl, hr2, hb2⟩
  obtain ⟨w3, hw3⟩ : ∃ y, y = w2.alloc (.cells #[.int .u8 8, .int .i64 0, .int .i64 0, .int .i64 0, .int .i64 0, .int .i64 0, .int .i64 0, .int .u8 0, .slice B 1 cb, .int .i64 0, .int .i64 0] 24) := ⟨_, rfl⟩
  have e3 : Below w2.heap.size w2 w3 := by rw [hw3]; exact (Below.refl _ _).alloc (Nat.le_refl _) _
  have HX3 := Lib.hid (show ClBlk w3 w2.heap.size cW1 B cb by rw [hw3]; exact heap_alloc_new _ _)
  have HR3 := Lib.hid (hr2.below e3)
  have HB2 := Lib.hid (HB1.out.trans (hb2.mono HB1.out.size))
  have HB3 := Lib.hid (HB2.out.trans (e3.mono HB2.out.size))
  have HW3 := Lib.hid hw3
  clear e3 hw3 hr2 hb2 HTR HB1 HR1
  go_upto_region 2 with fail
  rw [← HW3.out]
  clear HW3 HB2
  generalize w2.heap.size = q1 at *
  have HT1 := Lib.hid ((clText_any cW1 B cb w3 ⟨by decide, by unfold I64; decide, by unfold I64; decide, by unfold I64; decide, by unfold I64; decide, by unfold I64; decide, by unfold I64; decide, by decide, by unfold I64; decide, by unfold I64; decide, by unfold I64; decide⟩ HR3.out (by decide) (HT.out.below HB3.out) (HP.out.below HB3.out)).mono fun e w' h => (show e = .returned (.tuple #[.string ⟨#[119, 97, 105, 116, 40, 53, 41]⟩, .int .i64 0]) ∧ Below w3.heap.size w3 w' from by
    obtain ⟨h1, h2⟩ := h
    rw [awk_t2] at h1
    unfold errOfC at h1
    rw [awk_t1] at h1
    exact ⟨h1, h2⟩))
  have p0 : w3.cell? ⟨q1, 0, none⟩ = some (.int .u8 8) := HX3.out.at.g0
  have p1 : w3.cell? ⟨q1, 1, none⟩ = some (.int .i64 0) := HX3.out.at.g1
  have p2 : w3.cell? ⟨q1, 2, none⟩ = some (.int .i64 0) := HX3.out.at.g2
  have p3 : w3.cell? ⟨q1, 3, none⟩ = some (.int .i64 0) := HX3.out.at.g3
  have p4 : w3.cell? ⟨q1, 4, none⟩ = some (.int .i64 0) := HX3.out.at.g4
  have p5 : w3.cell? ⟨q1, 5, none⟩ = some (.int .i64 0) := HX3.out.at.g5
  have p6 : w3.cell? ⟨q1, 6, none⟩ = some (.int .i64 0) := HX3.out.at.g6
  have p7 : w3.cell? ⟨q1, 7, none⟩ = some (.int .u8 0) := HX3.out.at.g7
  have p8 : w3.cell? ⟨q1, 8, none⟩ = some (.slice B 1 cb) := HX3.out.at.g8
  have p9 : w3.cell? ⟨q1, 9, none⟩ = some (.int .i64 0) := HX3.out.at.g9
  have pA : w3.cell? ⟨q1, 10, none⟩ = some (.int .i64 0) := HX3.out.at.gA
  go_wp2_with fail
  refine HT1.out.mono ?_
  rintro e w4 ⟨rfl, hb4⟩
  have HX4 := Lib.hid (HX3.out.below hb4)
  have HR4 := Lib.hid (HR3.out.below hb4)
  have HB4 := Lib.hid (HB3.out.trans (hb4.mono HB3.out.size))
  clear hb4 HT1 HX3 HR3 HB3 p0 p1 p2 p3 p4 p5 p6 p7 p8 p9 pA
  have HT2 := Lib.hid ((show Calls Tryz.prog 7 #[.agg #[.int .u8 17, .int .i64 0, .int .i64 0, .int .i64 0, .int .i64 (-4), .int .i64 0, .int .i64 1, .int .u8 1, .slice none 0 0, .int .i64 0, .int .i64 0]] w4 (TextPost cR0 w4) from clText_any cR0 none 0 w4 ⟨by decide, by unfold I64; decide, by unfold I64; decide, by unfold I64; decide, by unfold I64; decide, by unfold I64; decide, by unfold I64; decide, by decide, by unfold I64; decide, by unfold I64; decide, by unfold I64; decide⟩ (fun k hk => absurd hk (by simp)) (by decide) (HT.out.below HB4.out) (HP.out.below HB4.out)).mono fun e w' h => (show e = .returned (.tuple #[.string ⟨#[114, 101, 100, 117, 99, 101, 40, 48, 44, 32, 49, 44, 32, 45, 52, 44, 32, 109, 97, 120, 41]⟩, .int .i64 0]) ∧ Below w4.heap.size w4 w' from by
    obtain ⟨h1, h2⟩ := h
    rw [awk_t4] at h1
    unfold errOfC at h1
    rw [awk_t3] at h1
    exact ⟨h1, h2⟩))
  go_upto_region 3 with fail
  go_wp2_with fail
  refine HT2.out.mono ?_
  rintro e w5 ⟨rfl, hb5⟩
  have HX5 := Lib.hid (HX4.out.below hb5)
  have HR5 := Lib.hid (HR4.out.below hb5)
  have HB5 := Lib.hid (HB4.out.trans (hb5.mono HB4.out.size))
  clear hb5 HT2 HX4 HR4 HB4
  have HPA := Lib.hid ((clParse_any ⟨#[114, 101, 99, 118, 40, 48, 44, 32, 45, 49, 44, 32, 51, 41]⟩ w5 (by decide) (HT.out.below HB5.out) (HP.out.below HB5.out) (HL.out.below HB5.out)).mono fun e w' h => (show ∃ (E : Option Addr) (ce : Nat), e = .returned (.tuple #[.agg (clCells cV0 E ce), .int .i64 0]) ∧ Below w5.heap.size w5 w' from by
    obtain ⟨c, E, ce, er, h1, _, h3, h4⟩ := h
    obtain ⟨rfl, rfl⟩ := parse_one (c := cV0) (e := 0) (.inl ⟨rfl, ⟨by decide, by unfold I64; decide, by unfold I64; decide, by unfold I64; decide, by unfold I64; decide, by unfold I64; decide, by unfold I64; decide, by decide, by unfold I64; decide, by unfold I64; decide, by unfold I64; decide⟩, awk_t5, awk_t6⟩) h4
    exact ⟨E, ce, h1, h3⟩))
  go_upto_region 4 with fail
  go_wp2_with fail
  refine HPA.out.mono ?_
  rintro e w6 ⟨E, ce, rfl, hb6⟩
  obtain ⟨w7, hw7⟩ : ∃ y, y = w6.alloc (.cells #[.int .u8 6, .int .i64 0, .int .i64 (-1), .int .i64 3, .int .i64 0, .int .i64 0, .int .i64 0, .int .u8 0, .slice E 0 ce, .int .i64 0, .int .i64 0] 24) := ⟨_, rfl⟩
  have e7 : Below w6.heap.size w6 w7 := by rw [hw7]; exact (Below.refl _ _).alloc (Nat.le_refl _) _
  have HV7 := Lib.hid (show ClBlk w7 w6.heap.size cV0 E ce by rw [hw7]; exact heap_alloc_new _ _)
  have HX7 := Lib.hid ((HX5.out.below hb6).below e7)
  have HR7 := Lib.hid ((HR5.out.below hb6).below e7)
  have HB6 := Lib.hid (HB5.out.trans (hb6.mono HB5.out.size))
  have HB7 := Lib.hid (HB6.out.trans (e7.mono HB6.out.size))
  have HW7 := Lib.hid hw7
  clear e7 hw7 hb6 HPA HX5 HR5 HB5 HB6
  go_upto_region 5 with fail
  rw [← HW7.out]
  clear HW7
  generalize w6.heap.size = q6 at *
  have p0 : w7.cell? ⟨q1, 0, none⟩ = some (.int .u8 8) := HX7.out.at.g0
  have p1 : w7.cell? ⟨q1, 1, none⟩ = some (.int .i64 0) := HX7.out.at.g1
  have p2 : w7.cell? ⟨q1, 2, none⟩ = some (.int .i64 0) := HX7.out.at.g2
  have p3 : w7.cell? ⟨q1, 3, none⟩ = some (.int .i64 0) := HX7.out.at.g3
  have p4 : w7.cell? ⟨q1, 4, none⟩ = some (.int .i64 0) := HX7.out.at.g4
  have p5 : w7.cell? ⟨q1, 5, none⟩ = some (.int .i64 0) := HX7.out.at.g5
  have p6 : w7.cell? ⟨q1, 6, none⟩ = some (.int .i64 0) := HX7.out.at.g6
  have p7 : w7.cell? ⟨q1, 7, none⟩ = some (.int .u8 0) := HX7.out.at.g7
  have p8 : w7.cell? ⟨q1, 8, none⟩ = some (.slice B 1 cb) := HX7.out.at.g8
  have p9 : w7.cell? ⟨q1, 9, none⟩ = some (.int .i64 0) := HX7.out.at.g9
  have pA : w7.cell? ⟨q1, 10, none⟩ = some (.int .i64 0) := HX7.out.at.gA
  obtain ⟨w8, hw8⟩ : ∃ y, y = w7.alloc (.cells #[.int .i64 5] 3) := ⟨_, rfl⟩
  have e8 : Below w7.heap.size w7 w8 := by rw [hw8]; exact (Below.refl _ _).alloc (Nat.le_refl _) _
  have HRX := Lib.hid (show IntRow w8 (some ⟨w7.heap.size, 0, none⟩) [5] from fun k hk => by
    obtain rfl : k = 0 := by simpa using hk
    exact ⟨_, _, rfl, by rw [hw8]; simp, by rw [hw8]; exact cell_new1 _ _ _⟩)
  have HSM := Lib.hid (show Calls Tryz.prog 9 #[.agg #[.int .u8 8, .int .i64 0, .int .i64 0, .int .i64 0, .int .i64 0, .int .i64 0, .int .i64 0, .int .u8 0, .slice B 1 cb, .int .i64 0, .int .i64 0], .agg #[.int .u8 8, .int .i64 0, .int .i64 0, .int .i64 0, .int .i64 0, .int .i64 0, .int .i64 0, .int .u8 0, .slice (some ⟨w7.heap.size, 0, none⟩) 1 1, .int .i64 0, .int .i64 0]] w8 fun e w' => e = .returned (.bool true) ∧ Below w8.heap.size w8 w' from by
    have h := rcallSame_any cW1 cW1 B (some ⟨w7.heap.size, 0, none⟩) cb 1 w8 (HR7.out.below e8) HRX.out (by decide) (by decide)
    rw [(Cl.same_iff cW1 cW1).2 rfl] at h
    exact h)
  have HV8 := Lib.hid (HV7.out.below e8)
  have HB8 := Lib.hid (HB7.out.trans (e8.mono HB7.out.size))
  have HW8 := Lib.hid hw8
  clear e8 hw8 HV7 HX7 HR7 HRX
  go_wp2_with fail
  rw [← HW8.out]
  clear HW8 HB7
  refine HSM.out.mono ?_
  rintro e w9 ⟨rfl, hb9⟩
  have HV9 := Lib.hid (HV8.out.below hb9)
  have HB9 := Lib.hid (HB8.out.trans (hb9.mono HB8.out.size))
  clear hb9 HSM HV8 HB8 p0 p1 p2 p3 p4 p5 p6 p7 p8 p9 pA
  go_upto_region 7 with fail
  have v0 : w9.cell? ⟨q6, 0, none⟩ = some (.int .u8 6) := HV9.out.at.g0
  have v1 : w9.cell? ⟨q6, 1, none⟩ = some (.int .i64 0) := HV9.out.at.g1
  have v2 : w9.cell? ⟨q6, 2, none⟩ = some (.int .i64 (-1)) := HV9.out.at.g2
  have v3 : w9.cell? ⟨q6, 3, none⟩ = some (.int .i64 3) := HV9.out.at.g3
  have v4 : w9.cell? ⟨q6, 4, none⟩ = some (.int .i64 0) := HV9.out.at.g4
  have v5 : w9.cell? ⟨q6, 5, none⟩ = some (.int .i64 0) := HV9.out.at.g5
  have v6 : w9.cell? ⟨q6, 6, none⟩ = some (.int .i64 0) := HV9.out.at.g6
  have v7 : w9.cell? ⟨q6, 7, none⟩ = some (.int .u8 0) := HV9.out.at.g7
  have v8 : w9.cell? ⟨q6, 8, none⟩ = some (.slice E 0 ce) := HV9.out.at.g8
  have v9 : w9.cell? ⟨q6, 9, none⟩ = some (.int .i64 0) := HV9.out.at.g9
  have vA : w9.cell? ⟨q6, 10, none⟩ = some (.int .i64 0) := HV9.out.at.gA
  have HSN := Lib.hid (show Calls Tryz.prog 9 #[.agg #[.int .u8 6, .int .i64 0, .int .i64 (-1), .int .i64 3, .int .i64 0, .int .i64 0, .int .i64 0, .int .u8 0, .slice E 0 ce, .int .i64 0, .int .i64 0], .agg #[.int .u8 6, .int .i64 0, .int .i64 (-1), .int .i64 3, .int .i64 0, .int .i64 0, .int .i64 0, .int .u8 0, .slice none 0 0, .int .i64 0, .int .i64 0]] w9 fun e w' => e = .returned (.bool true) ∧ Below w9.heap.size w9 w' from by
    have h := rcallSame_any cV0 cV0 E none ce 0 w9 (fun k hk => absurd hk (by simp)) (fun k hk => absurd hk (by simp)) (by decide) (by decide)
    rw [(Cl.same_iff cV0 cV0).2 rfl] at h
    exact h)
  go_wp2_with fail
  refine HSN.out.mono ?_
  rintro e wa ⟨rfl, hba⟩
  have HBA := Lib.hid (HB9.out.trans (hba.mono HB9.out.size))
  clear hba HSN HV9 HB9 v0 v1 v2 v3 v4 v5 v6 v7 v8 v9 vA
  have HTD := Lib.hid (show Calls Tryz.prog 16 #[.int .u8 6, .agg #[.bool false, .int .i64 7, .int .i64 1, .int .i64 0, .int .i64 0, .int .i64 0, .int .i64 0, .slice (none) 0 0]] wa fun e w' => e = .returned (.string ⟨#[118, 97, 108, 117, 101, 32, 55, 32, 112, 101, 101, 114, 32, 49, 32, 116, 97, 103, 32, 48]⟩) ∧ Below wa.heap.size wa w' from by
    have h := told16_any 6 (by decide) (by decide) false 7 1 0 0 0 0 (by unfold In64; decide) (by unfold In64; decide) (by unfold In64; decide) (by unfold In64; decide) (by unfold In64; decide) (by unfold In64; decide) [] (none) 0 wa ((fun k hk => absurd hk (by simp))) (by decide) (fun n hn => absurd hn (by simp)) (HC.out.below HBA.out)
    rw [awk_d1] at h
    exact h)
  go_wp2_with fail
  refine HTD.out.mono ?_
  rintro e wb ⟨rfl, hbb⟩
  have HBB := Lib.hid (HBA.out.trans (hbb.mono HBA.out.size))
  clear hbb HTD HBA
  obtain ⟨wc, hwc⟩ : ∃ y, y = wb.alloc (.cells #[.int .i64 1, .int .i64 2] 2) := ⟨_, rfl⟩
  have ec : Below wb.heap.size wb wc := by rw [hwc]; exact (Below.refl _ _).alloc (Nat.le_refl _) _
  have HRC := Lib.hid (show IntRow wc (some ⟨wb.heap.size, 0, none⟩) [1, 2] from fun k hk => by
    rw [hwc]
    match k, hk with
    | 0, _ => exact ⟨_, _, rfl, by simp, cell_new2a _ _ _ _⟩
    | 1, _ => exact ⟨_, _, rfl, by simp, cell_new2b _ _ _ _⟩
    | k + 2, hk => exact absurd hk (by simp))
  have HBC := Lib.hid (HBB.out.trans (ec.mono HBB.out.size))
  have HWC := Lib.hid hwc
  clear ec hwc
  have HTD := Lib.hid (show Calls Tryz.prog 16 #[.int .u8 19, .agg #[.bool false, .int .i64 0, .int .i64 0, .int .i64 0, .int .i64 0, .int .i64 0, .int .i64 0, .slice (some ⟨wb.heap.size, 0, none⟩) 2 2]] wc fun e w' => e = .returned (.string ⟨#[114, 111, 119, 32, 49, 32, 50]⟩) ∧ Below wc.heap.size wc w' from by
    have h := told16_any 19 (by decide) (by decide) false 0 0 0 0 0 0 (by unfold In64; decide) (by unfold In64; decide) (by unfold In64; decide) (by unfold In64; decide) (by unfold In64; decide) (by unfold In64; decide) [1, 2] (some ⟨wb.heap.size, 0, none⟩) 2 wc (HRC.out) (by decide) (fun n hn => in12 hn) (HC.out.below HBC.out)
    rw [awk_d2] at h
    exact h)
  go_wp2_with fail
  rw [← HWC.out]
  clear HWC HBB
  refine HTD.out.mono ?_
  rintro e wd ⟨rfl, hbd⟩
  have HBD := Lib.hid (HBC.out.trans (hbd.mono HBC.out.size))
  clear hbd HTD HBC HRC
  have HTD := Lib.hid (show Calls Tryz.prog 16 #[.int .u8 19, .agg #[.bool false, .int .i64 0, .int .i64 0, .int .i64 0, .int .i64 0, .int .i64 0, .int .i64 0, .slice (none) 0 0]] wd fun e w' => e = .returned (.string ⟨#[114, 111, 119]⟩) ∧ Below wd.heap.size wd w' from by
    have h := told16_any 19 (by decide) (by decide) false 0 0 0 0 0 0 (by unfold In64; decide) (by unfold In64; decide) (by unfold In64; decide) (by unfold In64; decide) (by unfold In64; decide) (by unfold In64; decide) [] (none) 0 wd ((fun k hk => absurd hk (by simp))) (by decide) (fun n hn => absurd hn (by simp)) (HC.out.below HBD.out)
    rw [awk_d3] at h
    exact h)
  go_wp2_with fail
  refine HTD.out.mono ?_
  rintro e we ⟨rfl, hbe⟩
  have HBE := Lib.hid (HBD.out.trans (hbe.mono HBD.out.size))
  clear hbe HTD HBD
  go_wp2_with fail
  go_ret
  exact ⟨by first | rfl | exact ret_bool (by simp), HBE.out⟩
end Go.Proofs.YtgphigpbgiceiaaGreatDoor
