/- The walk of call.Same. -/
import Derived.Test.YtgphigpbgiceiaaGreatDoorCl
import Derived.Test.YtgphigpbgiceiaaGreatDoorPk10
namespace Go.Proofs.YtgphigpbgiceiaaGreatDoor
open Go.RowKit Go.Sort
set_option linter.unusedVariables false
set_option linter.unusedSimpArgs false

/-- Whether two calls are the same. -/
def Cl.same (a b : Cl) : Bool := ((List.range 10).all fun f => getF a f == getF b f) && (a.kind == b.kind) && sameBy eqInt a.reqs b.reqs
theorem Cl.same_iff (a b : Cl) : a.same b = true ↔ a = b := by
  unfold Cl.same
  rw [Bool.and_eq_true, Bool.and_eq_true, sameBy_iff eqInt_iff]
  cases a
  cases b
  simp [List.range, List.range.loop, getF]
  constructor
  · rintro ⟨⟨⟨h0, h1, h2, h3, h4, h5, h6, h7, h9⟩, hk⟩, hr⟩
    simp [*]
  · rintro ⟨hk, h0, h1, h2, h3, h4, h5, h9, hr, h6, h7⟩
    simp [*]

set_option maxHeartbeats 8000000 in
set_option maxRecDepth 100000 in
theorem callSame_any (a b : Cl) (A B : Option Addr) (ca cb : Nat) (w : World) (ha : a.Ok) (hb : b.Ok) (hA : IntRow w A a.reqs) (hB : IntRow w B b.reqs) (hla : a.reqs.length ≤ 9223372036854775807) (hlb : b.reqs.length ≤ 9223372036854775807) :
    Calls Tryz.prog 13 #[.agg (clCells a A ca), .agg (clCells b B cb)] w fun e w' => e = .returned (.bool (a.same b)) ∧ Below w.heap.size w w' := by
  have hb1 : Below w.heap.size w (w.alloc (.cells (clCells a A ca) 24)) := (Below.refl _ _).alloc (Nat.le_refl _) _
  have hb2 : Below (w.alloc (.cells (clCells a A ca) 24)).heap.size (w.alloc (.cells (clCells a A ca) 24)) ((w.alloc (.cells (clCells a A ca) 24)).alloc (.cells (clCells b B cb) 24)) := (Below.refl _ _).alloc (Nat.le_refl _) _
  have hX1 : ClAt ((w.alloc (.cells (clCells a A ca) 24)).alloc (.cells (clCells b B cb) 24)) w.heap.size a A ca := (ClBlk.new.below hb2).at
  have hY1 : ClAt ((w.alloc (.cells (clCells a A ca) 24)).alloc (.cells (clCells b B cb) 24)) (w.alloc (.cells (clCells a A ca) 24)).heap.size b B cb := ClBlk.new.at
  have hbb := hb1.trans (hb2.mono hb1.size)
  have hsz : (w.alloc (.cells (clCells a A ca) 24)).heap.size = w.heap.size + 1 := by simp
  rw [hsz] at hY1
  have HX := Lib.hid hX1
  have HY := Lib.hid hY1
  have HB := Lib.hid hbb
  have HRA := Lib.hid (hA.below hbb)
  have HRB := Lib.hid (hB.below hbb)
  have HOA := Lib.hid ha
  have HOB := Lib.hid hb
  clear hb1 hb2 hX1 hY1 hbb hA hB ha hb hsz
  go_enter Tryz.func13, Tryz.ntmps13
  go_upto_region 1 with fail
  generalize (w.alloc (.cells (clCells a A ca) 24)).alloc (.cells (clCells b B cb) 24) = w1 at *
  go_wp2_with fail
  go_loopg [6] 11 (fun g i wx => ∃ k : Nat, i = .int .i64 k ∧ k ≤ 10 ∧ 10 - k < g ∧ Hid (((List.range k).all fun f => getF a f == getF b f) = true) ∧ Hid (Below w1.heap.size w1 wx))
  case atStart => exact ⟨0, rfl, by omega, by omega, rfl, Below.refl _ _⟩
  case round =>
    obtain ⟨k, rfl, hk, hg, HALL, HBX⟩ := hrel
    obtain ⟨g, rfl⟩ : ∃ g, gk = g + 1 := ⟨gk - 1, by omega⟩
    by_cases hlt : k < 10
    · have HX2 := Lib.hid (HX.out.below HBX.out)
      have HY2 := Lib.hid (HY.out.below HBX.out)
      have HC1 := Lib.hid (fun (wx : World) => get_any k hlt a A ca HOA.out.op wx)
      have HC2 := Lib.hid (fun (wx : World) => get_any k hlt b B cb HOB.out.op wx)
      have HST := Lib.hid (show ((List.range (k + 1)).all fun f => getF a f == getF b f) = (getF a k == getF b k) by
        rw [List.range_succ, List.all_append, HALL.out]
        simp)
      have HFF := Lib.hid (show (getF a k == getF b k) = false → a.same b = false from fun h => by
        cases hs : a.same b with
        | false => rfl
        | true =>
          rw [(Cl.same_iff a b).1 hs] at h
          simp at h)
      have k0 := fun d os => cell_regrown HX2.out.g0 d os
      have k1 := fun d os => cell_regrown HX2.out.g1 d os
      have k2 := fun d os => cell_regrown HX2.out.g2 d os
      have k3 := fun d os => cell_regrown HX2.out.g3 d os
      have k4 := fun d os => cell_regrown HX2.out.g4 d os
      have k5 := fun d os => cell_regrown HX2.out.g5 d os
      have k6 := fun d os => cell_regrown HX2.out.g6 d os
      have k7 := fun d os => cell_regrown HX2.out.g7 d os
      have k8 := fun d os => cell_regrown HX2.out.g8 d os
      have k9 := fun d os => cell_regrown HX2.out.g9 d os
      have kA := fun d os => cell_regrown HX2.out.gA d os
      have j0 := fun d os => cell_regrown HY2.out.g0 d os
      have j1 := fun d os => cell_regrown HY2.out.g1 d os
      have j2 := fun d os => cell_regrown HY2.out.g2 d os
      have j3 := fun d os => cell_regrown HY2.out.g3 d os
      have j4 := fun d os => cell_regrown HY2.out.g4 d os
      have j5 := fun d os => cell_regrown HY2.out.g5 d os
      have j6 := fun d os => cell_regrown HY2.out.g6 d os
      have j7 := fun d os => cell_regrown HY2.out.g7 d os
      have j8 := fun d os => cell_regrown HY2.out.g8 d os
      have j9 := fun d os => cell_regrown HY2.out.g9 d os
      have jA := fun d os => cell_regrown HY2.out.gA d os
      obtain ⟨u, hu⟩ : ∃ u, getF a k = u := ⟨_, rfl⟩
      obtain ⟨v, hv⟩ : ∃ v, getF b k = v := ⟨_, rfl⟩
      rw [hu] at HC1 HST HFF
      rw [hv] at HC2 HST HFF
      clear hu hv
      go_upto_region 4 with fail
      refine wp_region_quiet_below (by kernel_rfl) (by kernel_rfl) ?_
      repeat (quiet_step (first | (with_reducible exact Calls.regrown_of (HC1.out _)) | (with_reducible exact Calls.regrown_of (HC2.out _))))
      refine wpQuiet_nil ?_
      intro _ hw'
      obtain ⟨⟨dq, osq⟩, hw''⟩ := hw'
      subst hw''
      have HB9 := Lib.hid (HBX.out.trans ((below_regrown wr dq osq).mono HBX.out.size))
      generalize grow (redrawn wr dq) osq = w9 at *
      clear k0 k1 k2 k3 k4 k5 k6 k7 k8 k9 kA j0 j1 j2 j3 j4 j5 j6 j7 j8 j9 jA HC1 HC2 HX2 HY2
      cases he : (u == v)
      case false =>
        rw [he] at HST HFF
        have hne : (u != v) = true := by rw [bne, he]; rfl
        have HBB := Lib.hid (HB.out.trans (HB9.out.mono HB.out.size))
        go_wp2_with fail
        go_ret
        exact ⟨ret_bool (HFF.out (by first | trivial | rfl)).symm, HBB.out⟩
      case true =>
        rw [he] at HST
        have hne : (u != v) = false := by rw [bne, he]; rfl
        go_wp2_with fail
        go_roundg g
        case measure => omega
        case rel => exact ⟨k + 1, by go_num, by omega, by omega, HST, HB9⟩
    · obtain rfl : k = 10 := by omega
      have HX2 := Lib.hid (HX.out.below HBX.out)
      have HY2 := Lib.hid (HY.out.below HBX.out)
      have HEQ := Lib.hid (equalInts_any A B ca cb a.reqs b.reqs wr (HRA.out.below HBX.out) (HRB.out.below HBX.out) hla hlb)
      have HSM := Lib.hid (show a.same b = ((a.kind == b.kind) && sameBy eqInt a.reqs b.reqs) by
        unfold Cl.same
        rw [HALL.out, Bool.true_and])
      have HBB := Lib.hid (HB.out.trans (HBX.out.mono HB.out.size))
      have k0 := HX2.out.g0
      have k8 := HX2.out.g8
      have j0 := HY2.out.g0
      have j8 := HY2.out.g8
      cases he : (a.kind == b.kind)
      case false =>
        rw [he] at HSM
        go_wp2_with fail
        go_ret
        exact ⟨ret_bool (by rw [HSM.out]; rfl), HBB.out⟩
      case true =>
        rw [he] at HSM
        go_wp2_with fail
        refine HEQ.out.mono ?_
        rintro e w9 ⟨rfl, n9, hw9⟩
        have HBC := Lib.hid (HBB.out.trans ((show Below wr.heap.size wr w9 by rw [hw9]; exact Gr.below ⟨n9, #[], by rw [grow_empty]⟩).mono HBB.out.size))
        clear hw9
        go_wp2_with fail
        go_ret
        exact ⟨ret_bool (by rw [HSM.out, Bool.true_and]), HBC.out⟩
end Go.Proofs.YtgphigpbgiceiaaGreatDoor
