/- The law CallBack: its walk, and what its row asks. -/
import Derived.Test.YtgphigpbgiceiaaGreatDoorAwk
import Derived.Test.YtgphigpbgiceiaaGreatDoorTrimCls
import Derived.Test.YtgphigpbgiceiaaGreatDoorClMay
import Derived.Test.YtgphigpbgiceiaaGreatDoorClOpen
import Derived.Test.YtgphigpbgiceiaaGreatDoorPrsTabs
import Derived.Test.YtgphigpbgiceiaaGreatDoorPk44
import Derived.Deep.Cut
import Derived.Deep.DeepCutAuto
namespace Go.Proofs.YtgphigpbgiceiaaGreatDoor
open Go.ChangeShapes Go.WideShapes Go.ChangeAt Go.RowKit Go.Sort
open Go.ChangeMaps (open_string shut_string)
set_option linter.unusedVariables false
set_option linter.unusedSimpArgs false

set_option maxHeartbeats 16000000 in
set_option maxRecDepth 100000 in
theorem callBack_walk (c : Cl) (A G : Option Addr) (ca cg : Nat) (s x : ByteArray) (gl : List Int) (w : World) (hc : c.Ok) (hA : IntRow w A c.reqs) (hG : IntRow w G gl)
    (hla : c.reqs.length ≤ 9223372036854775807) (hlg : gl.length ≤ 9223372036854775807) (hs : s.size ≤ 9223372036854775807) (hT : TextTabs w) (hP : PowIs w) (hL : PrsTabs w) (hC : CtTabs w) :
    Calls Tryz.prog 3 #[.agg (clCells c A ca), .string s, .agg #[.string x, .slice G gl.length cg]] w fun e w' => e = .returned (.bool true) ∧ Below w.heap.size w w' := by
  obtain ⟨w1, hw1⟩ : ∃ y, y = w.alloc (.cells (clCells c A ca) 24) := ⟨_, rfl⟩
  have e1 : Below w.heap.size w w1 := by rw [hw1]; exact (Below.refl _ _).alloc (Nat.le_refl _) _
  have f1 : ClBlk w1 w.heap.size c A ca := by rw [hw1]; exact ClBlk.new
  have z1 : w1.heap.size = w.heap.size + 1 := by rw [hw1]; simp
  obtain ⟨w2, hw2⟩ : ∃ y, y = w1.alloc (.cells #[.string x, .slice G gl.length cg] 26) := ⟨_, rfl⟩
  have e2 : Below w1.heap.size w1 w2 := by rw [hw2]; exact (Below.refl _ _).alloc (Nat.le_refl _) _
  have f2 : BlkT w2 w1.heap.size 26 #[.string x, .slice G gl.length cg] := by rw [hw2]; exact heap_alloc_new _ _
  have HW2 := Lib.hid (show (w.alloc (.cells (clCells c A ca) 24)).alloc (.cells #[.string x, .slice G gl.length cg] 26) = w2 by rw [hw2, hw1])
  have HX := Lib.hid (f1.below e2)
  have HG := Lib.hid f2
  have HB := Lib.hid (e1.trans (e2.mono e1.size))
  have HR := Lib.hid ((hA.below e1).below e2)
  have HGR := Lib.hid ((hG.below e1).below e2)
  have HT := Lib.hid (hT.below HB.out)
  have HP := Lib.hid (hP.below HB.out)
  have HL := Lib.hid (hL.below HB.out)
  have HC := Lib.hid (hC.below HB.out)
  have HOK := Lib.hid hc
  have HZ1 := Lib.hid z1
  have HAW := Lib.hid (awake16_any w2 HT.out HP.out HL.out HC.out)
  clear hT hP hL hC e1 f1 e2 f2 hw1 hw2 hA hG hc z1
  go_enter Tryz.func3, Tryz.ntmps3
  go_upto_region 1 with fail
  rw [HW2.out, ← HZ1.out]
  clear HW2 HZ1
  generalize w1.heap.size = q1 at *
  go_wp2_with fail
  refine HAW.out.mono ?_
  rintro e w3 ⟨rfl, hb3⟩
  have HX3 := Lib.hid (HX.out.below hb3)
  have HG3 := Lib.hid (HG.out.below hb3)
  have HR3 := Lib.hid (HR.out.below hb3)
  have HGR3 := Lib.hid (HGR.out.below hb3)
  have HT3 := Lib.hid (HT.out.below hb3)
  have HP3 := Lib.hid (HP.out.below hb3)
  have HL3 := Lib.hid (HL.out.below hb3)
  have HB3 := Lib.hid (HB.out.trans (hb3.mono HB.out.size))
  clear hb3 HX HG HR HGR HT HP HL HC HB HAW
  have c8 : w3.cell? ⟨w.heap.size, 8, none⟩ = some (.slice A c.reqs.length ca) := HX3.out.at.g8
  have g1 : w3.cell? ⟨q1, 1, none⟩ = some (.slice G gl.length cg) := HG3.out.cell 1 _ rfl
  go_upto_region 3 with fail
  by_cases h60 : 60 < c.reqs.length
  · go_wp2_with fail
    go_ret
    exact ⟨rfl, HB3.out⟩
  by_cases h300 : 300 < s.size
  · go_wp2_with fail
    go_ret
    exact ⟨rfl, HB3.out⟩
  by_cases h100 : 100 < gl.length
  · go_wp2_with fail
    go_ret
    exact ⟨rfl, HB3.out⟩
  have HTX := Lib.hid (clText_any c A ca w3 HOK.out HR3.out (by omega) HT3.out HP3.out)
  obtain ⟨TX, hTX⟩ : ∃ TX : ByteArray, (⟨(textOfC c).toArray⟩ : ByteArray) = TX := ⟨_, rfl⟩
  obtain ⟨tb, htb⟩ : ∃ b, textB c = b := ⟨_, rfl⟩
  have HTE := Lib.hid (show (tb = false → TX = ⟨#[]⟩ ∧ errOfC c = 160) ∧ (tb = true → (⟨(clText c ((usesF c.kind).getD [])).toArray⟩ : ByteArray) = TX ∧ errOfC c = 0) by
    rw [← hTX]
    unfold textOfC errOfC
    rw [htb]
    constructor
    · intro h
      rw [h]
      exact ⟨rfl, rfl⟩
    · intro h
      rw [h]
      exact ⟨rfl, rfl⟩)
  have HTB := Lib.hid htb
  unfold TextPost at HTX
  rw [hTX] at HTX
  clear hTX htb
  go_upto_region 5 with fail
  clear c8 g1
  have p0 := HX3.out.at.g0
  have p1 := HX3.out.at.g1
  have p2 := HX3.out.at.g2
  have p3 := HX3.out.at.g3
  have p4 := HX3.out.at.g4
  have p5 := HX3.out.at.g5
  have p6 := HX3.out.at.g6
  have p7 := HX3.out.at.g7
  have p8 := HX3.out.at.g8
  have p9 := HX3.out.at.g9
  have pA := HX3.out.at.gA
  go_wp2_with fail
  refine HTX.out.mono ?_
  rintro e w4 ⟨rfl, hb4⟩
  have HX4 := Lib.hid (HX3.out.below hb4)
  have HG4 := Lib.hid (HG3.out.below hb4)
  have HR4 := Lib.hid (HR3.out.below hb4)
  have HGR4 := Lib.hid (HGR3.out.below hb4)
  have HT4 := Lib.hid (HT3.out.below hb4)
  have HP4 := Lib.hid (HP3.out.below hb4)
  have HL4 := Lib.hid (HL3.out.below hb4)
  have HB4 := Lib.hid (HB3.out.trans (hb4.mono HB3.out.size))
  clear hb4 HX3 HG3 HR3 HGR3 HT3 HP3 HL3 HB3 HTX p0 p1 p2 p3 p4 p5 p6 p7 p8 p9 pA
  obtain ⟨er, her⟩ : ∃ n, errOfC c = n := ⟨_, rfl⟩
  rw [her] at HTE ⊢
  clear her
  go_upto_region 6 with fail
  go_cut [48] (fun v48 wx => v48 = .bool false ∧ wx = w4)
  case first =>
    cases tb
    case false =>
      obtain ⟨rfl, rfl⟩ := HTE.out.1 rfl
      go_wp2_with fail
      go_meet
      case rel => exact ⟨by simp, rfl⟩
    case true =>
      obtain ⟨_, rfl⟩ := HTE.out.2 rfl
      go_wp2_with fail
      go_meet
      case rel => exact ⟨by simp, rfl⟩
  case rest =>
    obtain ⟨rfl, hw4⟩ := hcut
    have hw5 := hw4.symm
    subst hw5
    clear hw4
    go_upto_region 8 with fail
    go_upto_if 50 with fail
    go_cut [] (fun wx => Hid (Below w4.heap.size w4 wx))
    case first =>
      cases tb
      case false =>
        obtain ⟨rfl, rfl⟩ := HTE.out.1 rfl
        go_wp2_with fail
        go_meet
        case rel => exact Lib.hid (Below.refl _ _)
      case true =>
        obtain ⟨htx, rfl⟩ := HTE.out.2 rfl
        have hlen := clText_len HOK.out HTB.out
        have hsz : TX.size ≤ 300 := by
          rw [← htx]
          exact hlen
        have HPA := Lib.hid ((clParse_any TX w4 hsz HT4.out HP4.out HL4.out).mono fun e w' h => (show ∃ (E : Option Addr) (ce : Nat), e = .returned (.tuple #[.agg (clCells c E ce), .int .i64 0]) ∧ IntRow w' E c.reqs ∧ Below w4.heap.size w4 w' from by
          obtain ⟨d, E, ce, er, h1, h2, h3, h4⟩ := h
          obtain ⟨rfl, rfl⟩ := parse_one (c := c) (e := 0) (.inl ⟨rfl, HOK.out, HTB.out, htx⟩) h4
          exact ⟨E, ce, h1, h2, h3⟩))
        clear hlen
        go_upto_region 9 with fail
        go_wp2_with fail
        refine HPA.out.mono ?_
        rintro e w5 ⟨E, ce, rfl, hr5, hb5⟩
        obtain ⟨w6, hw6⟩ : ∃ y, y = w5.alloc (.cells (clCells c E ce) 24) := ⟨_, rfl⟩
        have e6 : Below w5.heap.size w5 w6 := by rw [hw6]; exact (Below.refl _ _).alloc (Nat.le_refl _) _
        have HD6 := Lib.hid (show ClBlk w6 w5.heap.size c E ce by rw [hw6]; exact ClBlk.new)
        have HX6 := Lib.hid ((HX4.out.below hb5).below e6)
        have HR6 := Lib.hid ((HR4.out.below hb5).below e6)
        have HS6 := Lib.hid (hr5.below e6)
        have HB6 := Lib.hid (hb5.trans (e6.mono hb5.size))
        have HW6 := Lib.hid (show w5.alloc (.cells (clCells c E ce) 24) = w6 from hw6.symm)
        have HSM := Lib.hid (show Calls Tryz.prog 9 #[.agg (clCells c A ca), .agg (clCells c E ce)] w6 fun e w' => e = .returned (.bool true) ∧ Below w6.heap.size w6 w' from by
          have h := rcallSame_any c c A E ca ce w6 HR6.out HS6.out (by omega) (by omega)
          rw [(Cl.same_iff c c).2 rfl] at h
          exact h)
        clear hb5 hr5 e6 hw6 HPA
        go_upto_region 10 with fail
        rw [HW6.out]
        clear HW6
        generalize w5.heap.size = q6 at *
        have p0 := HX6.out.at.g0
        have p1 := HX6.out.at.g1
        have p2 := HX6.out.at.g2
        have p3 := HX6.out.at.g3
        have p4 := HX6.out.at.g4
        have p5 := HX6.out.at.g5
        have p6 := HX6.out.at.g6
        have p7 := HX6.out.at.g7
        have p8 := HX6.out.at.g8
        have p9 := HX6.out.at.g9
        have pA := HX6.out.at.gA
        have d0 := HD6.out.at.g0
        have d1 := HD6.out.at.g1
        have d2 := HD6.out.at.g2
        have d3 := HD6.out.at.g3
        have d4 := HD6.out.at.g4
        have d5 := HD6.out.at.g5
        have d6 := HD6.out.at.g6
        have d7 := HD6.out.at.g7
        have d8 := HD6.out.at.g8
        have d9 := HD6.out.at.g9
        have dA := HD6.out.at.gA
        go_wp2_with fail
        refine HSM.out.mono ?_
        rintro e w7 ⟨rfl, hb7⟩
        have HB7 := Lib.hid (HB6.out.trans (hb7.mono HB6.out.size))
        clear hb7 HSM HX6 HD6 HR6 HS6 HB6
        go_wp2_with fail
        go_meet
        case rel => exact HB7
    case rest =>
      have HX5 := Lib.hid (HX4.out.below hcut.out)
      have HG5 := Lib.hid (HG4.out.below hcut.out)
      have HR5 := Lib.hid (HR4.out.below hcut.out)
      have HGR5 := Lib.hid (HGR4.out.below hcut.out)
      have HT5 := Lib.hid (HT4.out.below hcut.out)
      have HP5 := Lib.hid (HP4.out.below hcut.out)
      have HL5 := Lib.hid (HL4.out.below hcut.out)
      have HB5 := Lib.hid (HB4.out.trans (hcut.out.mono HB4.out.size))
      clear hcut HX4 HG4 HR4 HGR4 HT4 HP4 HL4 HB4 HTE HTB
      rename World => w5
      have HMA := Lib.hid (may_any16 c A ca x G cg gl w5 HR5.out (by omega) HOK.out.op HGR5.out (by omega))
      obtain ⟨mb, hmb⟩ : ∃ b, mayB c gl (usesF c.kind) = b := ⟨_, rfl⟩
      rw [hmb] at HMA
      have HMB := Lib.hid hmb
      clear hmb
      have p0 := HX5.out.at.g0
      have p1 := HX5.out.at.g1
      have p2 := HX5.out.at.g2
      have p3 := HX5.out.at.g3
      have p4 := HX5.out.at.g4
      have p5 := HX5.out.at.g5
      have p6 := HX5.out.at.g6
      have p7 := HX5.out.at.g7
      have p8 := HX5.out.at.g8
      have p9 := HX5.out.at.g9
      have pA := HX5.out.at.gA
      have g0 : w5.cell? ⟨q1, 0, none⟩ = some (.string x) := HG5.out.cell 0 _ rfl
      have g1 : w5.cell? ⟨q1, 1, none⟩ = some (.slice G gl.length cg) := HG5.out.cell 1 _ rfl
      go_upto_region 12 with fail
      go_wp2_with fail
      refine HMA.out.mono ?_
      rintro e w6 ⟨rfl, hb6⟩
      have HX6 := Lib.hid (HX5.out.below hb6)
      have HR6 := Lib.hid (HR5.out.below hb6)
      have HT6 := Lib.hid (HT5.out.below hb6)
      have HP6 := Lib.hid (HP5.out.below hb6)
      have HL6 := Lib.hid (HL5.out.below hb6)
      have HB6 := Lib.hid (HB5.out.trans (hb6.mono HB5.out.size))
      clear hb6 HMA HX5 HG5 HR5 HGR5 HT5 HP5 HL5 HB5 g0 g1 p0 p1 p2 p3 p4 p5 p6 p7 p8 p9 pA
      go_upto_if 66 with fail
      go_cut [] (fun wx => Hid (Below w6.heap.size w6 wx))
      case first =>
        cases mb
        case false =>
          go_wp2_with fail
          go_meet
          case rel => exact Lib.hid (Below.refl _ _)
        case true =>
          have HTT := Lib.hid (may_text c HOK.out.op gl HMB.out)
          have HTR := Lib.hid (trim_any c A ca w6 HR6.out (by omega) HOK.out.op)
          have p0 := HX6.out.at.g0
          have p1 := HX6.out.at.g1
          have p2 := HX6.out.at.g2
          have p3 := HX6.out.at.g3
          have p4 := HX6.out.at.g4
          have p5 := HX6.out.at.g5
          have p6 := HX6.out.at.g6
          have p7 := HX6.out.at.g7
          have p8 := HX6.out.at.g8
          have p9 := HX6.out.at.g9
          have pA := HX6.out.at.gA
          go_wp2_with fail
          refine HTR.out.mono ?_
          rintro e w7 ⟨E, ce, rfl, hr7, _, hb7⟩
          have HTO := Lib.hid (trimF_ok HOK.out)
          have HTX := Lib.hid (clText_any (trimF c) E ce w7 HTO.out hr7 (by have := reqs_few HTO.out.op HTT.out; omega) (HT6.out.below hb7) (HP6.out.below hb7))
          have HB7 := Lib.hid hb7
          obtain ⟨TY, hTY⟩ : ∃ TX : ByteArray, (⟨(textOfC (trimF c)).toArray⟩ : ByteArray) = TX := ⟨_, rfl⟩
          have HER := Lib.hid (show errOfC (trimF c) = 0 by unfold errOfC; rw [HTT.out]; rfl)
          have hne : (TY.toList == []) = false := by
            rw [← hTY, ByteArray.toList_eq]
            unfold textOfC
            rw [if_pos HTT.out]
            have := clText_pos (trimF c) ((usesF (trimF c).kind).getD [])
            generalize clText (trimF c) ((usesF (trimF c).kind).getD []) = l at *
            cases l with
            | nil => exact absurd rfl this
            | cons a b => rfl
          unfold TextPost at HTX
          rw [hTY, HER.out] at HTX
          clear hTY hr7 hb7 HTR HER p0 p1 p2 p3 p4 p5 p6 p7 p8 p9 pA
          go_wp2_with fail
          refine HTX.out.mono ?_
          rintro e w8 ⟨rfl, hb8⟩
          have HB8 := Lib.hid (HB7.out.trans (hb8.mono HB7.out.size))
          clear hb8 HTX HB7
          go_wp2_with fail
          go_meet
          case rel => exact HB8
      case rest =>
        have HT7 := Lib.hid (HT6.out.below hcut.out)
        have HP7 := Lib.hid (HP6.out.below hcut.out)
        have HL7 := Lib.hid (HL6.out.below hcut.out)
        have HB7 := Lib.hid (HB6.out.trans (hcut.out.mono HB6.out.size))
        clear hcut HX6 HR6 HT6 HP6 HL6 HB6 HMB
        rename World => w7
        have HPA := Lib.hid (clParse_any s w7 (by omega) HT7.out HP7.out HL7.out)
        go_upto_region 16 with fail
        go_wp2_with fail
        refine HPA.out.mono ?_
        rintro e w8 ⟨d, E, ce, ed, rfl, hr8, hb8, hpo⟩
        obtain ⟨w9, hw9⟩ : ∃ y, y = w8.alloc (.cells (clCells d E ce) 24) := ⟨_, rfl⟩
        have e9 : Below w8.heap.size w8 w9 := by rw [hw9]; exact (Below.refl _ _).alloc (Nat.le_refl _) _
        have HD9 := Lib.hid (show ClBlk w9 w8.heap.size d E ce by rw [hw9]; exact ClBlk.new)
        have HS9 := Lib.hid (hr8.below e9)
        have hb9 := hb8.trans (e9.mono hb8.size)
        have HT9 := Lib.hid (HT7.out.below hb9)
        have HP9 := Lib.hid (HP7.out.below hb9)
        have HB9 := Lib.hid (HB7.out.trans (hb9.mono HB7.out.size))
        have HW9 := Lib.hid (show w8.alloc (.cells (clCells d E ce) 24) = w9 from hw9.symm)
        have HPO := Lib.hid hpo
        clear hb8 hr8 e9 hw9 hb9 hpo HPA HT7 HP7 HL7 HB7
        go_upto_region 17 with fail
        rw [HW9.out]
        clear HW9
        generalize w8.heap.size = q9 at *
        rcases HPO.out with ⟨rfl, h1, h2, h3⟩ | ⟨rfl, rfl, h3⟩
        · have HTX := Lib.hid ((clText_any d E ce w9 h1 HS9.out (by have := reqs_few h1.op h2; omega) HT9.out HP9.out).mono fun e w' h => (show e = .returned (.tuple #[.string s, .int .i64 0]) ∧ Below w9.heap.size w9 w' from by
            obtain ⟨g1, g2⟩ := h
            unfold textOfC errOfC at g1
            rw [h2, if_pos rfl, if_pos rfl, h3] at g1
            exact ⟨g1, g2⟩))
          clear HPO h1 h2 h3
          have d0 := HD9.out.at.g0
          have d1 := HD9.out.at.g1
          have d2 := HD9.out.at.g2
          have d3 := HD9.out.at.g3
          have d4 := HD9.out.at.g4
          have d5 := HD9.out.at.g5
          have d6 := HD9.out.at.g6
          have d7 := HD9.out.at.g7
          have d8 := HD9.out.at.g8
          have d9 := HD9.out.at.g9
          have dA := HD9.out.at.gA
          go_wp2_with fail
          refine HTX.out.mono ?_
          rintro e wa ⟨rfl, hba⟩
          have HBA := Lib.hid (HB9.out.trans (hba.mono HB9.out.size))
          clear hba HTX HB9 d0 d1 d2 d3 d4 d5 d6 d7 d8 d9 dA
          go_wp2_with fail
          go_ret
          exact ⟨by first | rfl | exact ret_bool (by simp), HBA.out⟩
        · have HSM := Lib.hid (show Calls Tryz.prog 9 #[.agg #[.int .u8 0, .int .i64 0, .int .i64 0, .int .i64 0, .int .i64 0, .int .i64 0, .int .i64 0, .int .u8 0, .slice E 0 ce, .int .i64 0, .int .i64 0], .agg #[.int .u8 0, .int .i64 0, .int .i64 0, .int .i64 0, .int .i64 0, .int .i64 0, .int .i64 0, .int .u8 0, .slice none 0 0, .int .i64 0, .int .i64 0]] w9 fun e w' => e = .returned (.bool true) ∧ Below w9.heap.size w9 w' from by
            have h := rcallSame_any zeroCl zeroCl E none ce 0 w9 (fun k hk => absurd hk (by simp [zeroCl])) (fun k hk => absurd hk (by simp [zeroCl])) (by decide) (by decide)
            rw [(Cl.same_iff zeroCl zeroCl).2 rfl] at h
            exact h)
          clear HPO h3
          have d0 : w9.cell? ⟨q9, 0, none⟩ = some (.int .u8 0) := HD9.out.at.g0
          have d1 : w9.cell? ⟨q9, 1, none⟩ = some (.int .i64 0) := HD9.out.at.g1
          have d2 : w9.cell? ⟨q9, 2, none⟩ = some (.int .i64 0) := HD9.out.at.g2
          have d3 : w9.cell? ⟨q9, 3, none⟩ = some (.int .i64 0) := HD9.out.at.g3
          have d4 : w9.cell? ⟨q9, 4, none⟩ = some (.int .i64 0) := HD9.out.at.g4
          have d5 : w9.cell? ⟨q9, 5, none⟩ = some (.int .i64 0) := HD9.out.at.g5
          have d6 : w9.cell? ⟨q9, 6, none⟩ = some (.int .i64 0) := HD9.out.at.g6
          have d7 : w9.cell? ⟨q9, 7, none⟩ = some (.int .u8 0) := HD9.out.at.g7
          have d8 : w9.cell? ⟨q9, 8, none⟩ = some (.slice E 0 ce) := HD9.out.at.g8
          have d9 : w9.cell? ⟨q9, 9, none⟩ = some (.int .i64 0) := HD9.out.at.g9
          have dA : w9.cell? ⟨q9, 10, none⟩ = some (.int .i64 0) := HD9.out.at.gA
          go_wp2_with fail
          refine HSM.out.mono ?_
          rintro e wa ⟨rfl, hba⟩
          have HBA := Lib.hid (HB9.out.trans (hba.mono HB9.out.size))
          clear hba HSM HB9 d0 d1 d2 d3 d4 d5 d6 d7 d8 d9 dA
          go_wp2_with fail
          go_ret
          exact ⟨by first | rfl | exact ret_bool (by simp), HBA.out⟩

set_option maxRecDepth 100000 in
theorem callBack_calls {H : Type} (enc : TypeId × Value → H) (W : World) (base : Nat) (args : Array Value) (ds : List (DataW H)) (p : List MemPlace)
    (hval : ∀ (j : Nat) t v, Tryz.f3.params[j]? = some t → args[j]? = some v → Value.okWide Tryz.prog W .any base t v)
    (hA : DataW.TrodAll enc Tryz.prog W 0 (fun _ => true) true Tryz.f3.params.toList args.toList ds p)
    (hsz : (DataW.weightsEach Tryz.prog (Tryz.f3.params.toList ++ Rows.callBackSpec.plain.varTypes Tryz.prog) (ds ++ [])).all (· ≤ reachBytes) = true)
    (hL : laidMetH Tryz.prog Rows.callBackRow.laid W)
    (hS : W.ShapedOpen Tryz.prog) :
    Calls Tryz.prog 3 args W fun e W' => e = .returned (.bool true) ∧ Below W.heap.size W W' ∧ (Rows.callBackSpec.fn H (ds ++ [])) = { results := [.lit (.bool true)], args := ds } := by
  have hT : TextTabs W := textTabs_of (by kernel_rfl) hL (by repeat (first | exact List.mem_cons_self | apply List.mem_cons_of_mem)) (by repeat (first | exact List.mem_cons_self | apply List.mem_cons_of_mem))
  have hP : PowIs W := powIs_of (by kernel_rfl) hL (by repeat (first | exact List.mem_cons_self | apply List.mem_cons_of_mem))
  have hU : PrsTabs W := prsTabs_of (by kernel_rfl) hL hS (by repeat (first | exact List.mem_cons_self | apply List.mem_cons_of_mem)) (by repeat (first | exact List.mem_cons_self | apply List.mem_cons_of_mem)) (by repeat (first | exact List.mem_cons_self | apply List.mem_cons_of_mem))
  have hC : CtTabs W := ctTabs_of (by kernel_rfl) hL (by repeat (first | exact List.mem_cons_self | apply List.mem_cons_of_mem)) (by repeat (first | exact List.mem_cons_self | apply List.mem_cons_of_mem))
  rw [Tryz.params3] at hA hval
  obtain ⟨v0, v1, v2, d0, d1, d2, p0, p1, p2, rfl, rfl, rfl, h0, h1, h2⟩ := trodAll_three hA
  obtain ⟨c, A, ca, rfl, hc, hR0, hl0, hl1⟩ := open_call (hval 0 24 v0 rfl rfl) h0
  obtain ⟨s, rfl, rfl, rfl, hs⟩ := open_string Tryz.underlying9 (hval 1 9 v1 rfl rfl) h1
  obtain ⟨x, G, cg, gl, rfl, hR2, _, hl4, hl5⟩ := open_group (hval 2 26 v2 rfl rfl) h2
  exact (callBack_walk c A G ca cg s x gl W hc hR0 hR2 (by omega) (by omega) (by unfold maxLen at hs; omega) hT hP hU hC).mono fun e W' h => ⟨h.1, h.2, rfl⟩
end Go.Proofs.YtgphigpbgiceiaaGreatDoor
