/- The law CallMay: its walk. -/
import Derived.Test.YtgphigpbgiceiaaClMay
import Derived.Test.YtgphigpbgiceiaaRMay
import Derived.Test.YtgphigpbgiceiaaTrimLaw
import Derived.Test.YtgphigpbgiceiaaClRSame
import Derived.Test.YtgphigpbgiceiaaClSame
import Derived.Test.YtgphigpbgiceiaaClOpen
import Derived.Test.YtgphigpbgiceiaaRow
import Derived.Test.YtgphigpbgiceiaaAppI
import Derived.Lib.QuietBelow
namespace Go.Proofs.Ytgphigpbgiceiaa
open Go.ChangeShapes Go.WideShapes Go.ChangeAt Go.RowKit Go.Sort
set_option linter.unusedVariables false
set_option linter.unusedSimpArgs false

set_option maxHeartbeats 32000000 in
set_option maxRecDepth 100000 in
theorem callMay_walk (c d : Cl) (A B G : Option Addr) (ca cb cg : Nat) (s : ByteArray) (gl : List Int) (w : World) (hc : c.Ok) (hd : d.Ok) (hA : IntRow w A c.reqs) (hB : IntRow w B d.reqs) (hG : IntRow w G gl)
    (hla : c.reqs.length ≤ 9223372036854775807) (hlb : d.reqs.length ≤ 9223372036854775807) (hlg : gl.length ≤ 9223372036854775807) :
    Calls Try.prog 3 #[.agg (clCells c A ca), .agg (clCells d B cb), .agg #[.string s, .slice G gl.length cg]] w fun e w' => e = .returned (.bool true) ∧ Below w.heap.size w w' := by
  obtain ⟨w1, hw1⟩ : ∃ y, y = w.alloc (.cells (clCells c A ca) 24) := ⟨_, rfl⟩
  have e1 : Below w.heap.size w w1 := by rw [hw1]; exact (Below.refl _ _).alloc (Nat.le_refl _) _
  have f1 : ClBlk w1 w.heap.size c A ca := by rw [hw1]; exact ClBlk.new
  have z1 : w1.heap.size = w.heap.size + 1 := by rw [hw1]; simp
  obtain ⟨w2, hw2⟩ : ∃ y, y = w1.alloc (.cells (clCells d B cb) 24) := ⟨_, rfl⟩
  have e2 : Below w1.heap.size w1 w2 := by rw [hw2]; exact (Below.refl _ _).alloc (Nat.le_refl _) _
  have f2 : ClBlk w2 w1.heap.size d B cb := by rw [hw2]; exact ClBlk.new
  have z2 : w2.heap.size = w.heap.size + 1 + 1 := by rw [hw2]; simp [z1]
  obtain ⟨w3, hw3⟩ : ∃ y, y = w2.alloc (.cells #[.string s, .slice G gl.length cg] 26) := ⟨_, rfl⟩
  have e3 : Below w2.heap.size w2 w3 := by rw [hw3]; exact (Below.refl _ _).alloc (Nat.le_refl _) _
  have f3 : BlkT w3 w2.heap.size 26 #[.string s, .slice G gl.length cg] := by rw [hw3]; exact heap_alloc_new _ _
  have hXC := (f1.below e2).below e3
  have hXD := f2.below e3
  rw [z1] at hXD
  rw [z2] at f3
  have e12 := e1.trans (e2.mono e1.size)
  have HB := Lib.hid (e12.trans (e3.mono e12.size))
  have c8 := hXC.at.g8
  have d8 := hXD.at.g8
  have g1 := f3.cell 1 _ rfl
  go_enter Try.func3, Try.ntmps3
  go_upto_region 1 with fail
  rw [← hw1, ← hw2, ← hw3]
  have HXC := Lib.hid hXC
  have HXD := Lib.hid hXD
  have HGB := Lib.hid f3
  have HRA := Lib.hid (hA.below HB.out)
  have HRB := Lib.hid (hB.below HB.out)
  have HRG := Lib.hid (hG.below HB.out)
  have HC := Lib.hid hc
  have HD := Lib.hid hd
  clear hw1 hw2 hw3 e1 e2 e3 e12 f1 f2 f3 z1 z2 hXC hXD hA hB hG hc hd
  generalize w.heap.size + 1 + 1 = q2 at *
  generalize w.heap.size + 1 = q1 at *
  by_cases h60 : 60 < c.reqs.length
  · have hd1 : decide ((60 : Int) < (c.reqs.length : Int)) = true := by simp; omega
    clear h60
    go_wp2_with fail
    go_ret
    exact ⟨rfl, HB.out⟩
  have hd1 : decide ((60 : Int) < (c.reqs.length : Int)) = false := by simp; omega
  by_cases h61 : 60 < d.reqs.length
  · have hd2 : decide ((60 : Int) < (d.reqs.length : Int)) = true := by simp; omega
    clear h61
    go_wp2_with fail
    go_ret
    exact ⟨rfl, HB.out⟩
  have hd2 : decide ((60 : Int) < (d.reqs.length : Int)) = false := by simp; omega
  by_cases h62 : 100 < gl.length
  · have hd3 : decide ((100 : Int) < (gl.length : Int)) = true := by simp; omega
    clear h62
    go_wp2_with fail
    go_ret
    exact ⟨rfl, HB.out⟩
  have hd3 : decide ((100 : Int) < (gl.length : Int)) = false := by simp; omega
  go_upto_region 3 with fail
  clear hd1 hd2 hd3 c8 d8 g1
  have x0 := HXC.out.at.g0
  have x1 := HXC.out.at.g1
  have x2 := HXC.out.at.g2
  have x3 := HXC.out.at.g3
  have x4 := HXC.out.at.g4
  have x5 := HXC.out.at.g5
  have x6 := HXC.out.at.g6
  have x7 := HXC.out.at.g7
  have x8 := HXC.out.at.g8
  have x9 := HXC.out.at.g9
  have xA := HXC.out.at.gA
  go_upto_region 4 with fail
  obtain ⟨w4, hw4⟩ : ∃ y, y = w3.alloc (.cells (clCells c A ca) 24) := ⟨_, rfl⟩
  rw [← hw4]
  have e4 : Below w3.heap.size w3 w4 := by rw [hw4]; exact (Below.refl _ _).alloc (Nat.le_refl _) _
  have f4 : ClBlk w4 w3.heap.size c A ca := by rw [hw4]; exact ClBlk.new
  have z4 : w3.heap.size < w4.heap.size := f4.lt
  have HRA4 := Lib.hid (intRow_cells (HRA.out.below e4))
  have HE4 := Lib.hid e4
  have HF4 := Lib.hid f4
  have HZ4 := Lib.hid z4
  clear x8
  have x8 := Lib.cell?_alloc_some (.cells #[] 3) (HXC.out.below e4).at.g8
  clear hw4 x0 x1 x2 x3 x4 x5 x6 x7 x9 xA
  clear e4 f4 z4
  obtain ⟨i1, hi1, hz01, hz11, hz21⟩ := info_parts Try.infoInt
  have H1 := Lib.hid (And.intro hi1 (And.intro hz01 (And.intro hz11 hz21)))
  clear hi1 hz01 hz11 hz21
  have HLEN := Lib.hid (show c.reqs.length ≤ 60 by omega)
  have HLEND := Lib.hid (show d.reqs.length ≤ 60 by omega)
  have HLENG := Lib.hid (show gl.length ≤ 100 by omega)
  go_wp2_with (at_builtin; refine wpList_append_made_copy _ rfl _ _ 22 rfl 3 i1 (.int .i64 0) 1 8 Try.underlying22 H1.out.1 H1.out.2.1 H1.out.2.2.1 H1.out.2.2.2 rfl (by decide) w4.heap.size w4.heap.size 0 (World.ownsRow_made w4 #[] 0 (Nat.le_refl _) (Nat.zero_le _) rfl) (by simp) A c.reqs.length ca (c.reqs.map (Value.int .i64)) rfl rfl ?qc1 ?qc2 ?qc3 ?qc4 ?qc5 ?_)
  case qc1 => simp
  case qc2 =>
    intro j u hj
    obtain ⟨a', e', h⟩ := HRA4.out j u hj
    exact ⟨a', e', Lib.cell?_alloc_some _ h⟩
  case qc3 => intro u hu; obtain ⟨x, _, rfl⟩ := List.mem_map.1 hu; rfl
  case qc4 => have := HLEN.out; unfold maxLen; omega
  case qc5 => have := HLEN.out; omega
  intro v5 w5 hown hgrow
  obtain ⟨A5, c5, rfl, _, _, _, _⟩ := own_shape hown
  have e5 : Below w4.heap.size w4 w5 := ((Below.refl _ w4).alloc (Nat.le_refl _) _).grown hgrow (by simp) (by intro k hk; cases hk; exact Nat.le_refl _)
  have HF5 := Lib.hid (HF4.out.below e5)
  have m8 := HF5.out.at.g8
  have mz := HF5.out.fz 8
  have ml := HF5.out.lt
  have HR5 := Lib.hid (show IntApart w5 A5 c.reqs w3.heap.size w3.heap.size from ⟨intRow_of_own hown, fun a ha => by
    subst ha
    have := (hown.lt a.block (by rfl)).1
    have := HZ4.out
    exact ⟨by omega, by omega⟩⟩)
  have HE5 := Lib.hid (HE4.out.trans (e5.mono HE4.out.size))
  clear hown hgrow e5 x8 HRA4 H1
  go_upto_region 5 with fail
  obtain ⟨w6, hw6⟩ : ∃ y, y = w5.setCell ⟨w3.heap.size, 8, none⟩ (.slice A5 c.reqs.length c5) := ⟨_, rfl⟩
  rw [← hw6]
  have HM6 := Lib.hid (show ClBlk w6 w3.heap.size c A5 c5 by rw [hw6]; exact CBlk.set HF5.out 8 (.slice A5 c.reqs.length c5))
  have HRM6 := Lib.hid (show IntRow w6 A5 c.reqs by rw [hw6]; exact (HR5.out.set ⟨w3.heap.size, 8, none⟩ (Or.inl rfl) _).1)
  have HE6 := Lib.hid (show Below w3.heap.size w3 w6 by rw [hw6]; exact HE5.out.setCell (p := ⟨w3.heap.size, 8, none⟩) (Nat.le_refl _) _)
  clear hw6 HF5 HR5 HE5 HF4 HE4 HZ4 m8 mz ml
  have HXC6 := Lib.hid (HXC.out.below HE6.out)
  have HXD6 := Lib.hid (HXD.out.below HE6.out)
  have HGB6 := Lib.hid (HGB.out.below HE6.out)
  have HRA6 := Lib.hid (HRA.out.below HE6.out)
  have HRB6 := Lib.hid (HRB.out.below HE6.out)
  have HRG6 := Lib.hid (HRG.out.below HE6.out)
  have HB6 := Lib.hid (HB.out.trans (HE6.out.mono HB.out.size))
  clear HXC HXD HGB HRA HRB HRG HB HE6
  generalize w3.heap.size = b7 at *
  have x0 := HXC6.out.at.g0
  have x1 := HXC6.out.at.g1
  have x2 := HXC6.out.at.g2
  have x3 := HXC6.out.at.g3
  have x4 := HXC6.out.at.g4
  have x5 := HXC6.out.at.g5
  have x6 := HXC6.out.at.g6
  have x7 := HXC6.out.at.g7
  have x8 := HXC6.out.at.g8
  have x9 := HXC6.out.at.g9
  have xA := HXC6.out.at.gA
  have HT := Lib.hid (rtrim_any c A ca w6 HRA6.out (by have := HLEN.out; omega))
  go_wp2_with fail
  refine HT.out.mono ?_
  rintro e w7 ⟨T, ct, rfl, hrt, hbt⟩
  obtain ⟨tr, htr⟩ : ∃ x, x = rtrim c := ⟨_, rfl⟩
  rw [← htr] at hrt ⊢
  have HTR := Lib.hid htr
  have HRT := Lib.hid hrt
  have HBT := Lib.hid hbt
  clear htr hrt hbt HT x0 x1 x2 x3 x4 x5 x6 x7 x8 x9 xA
  go_upto_region 6 with fail
  obtain ⟨w8, hw8⟩ : ∃ y, y = w7.alloc (.cells (clCells tr T ct) 24) := ⟨_, rfl⟩
  rw [← hw8]
  have HT8 := Lib.hid (show ClBlk w8 w7.heap.size tr T ct by rw [hw8]; exact ClBlk.new)
  have hb8 : Below w7.heap.size w7 w8 := by rw [hw8]; exact (Below.refl _ _).alloc (Nat.le_refl _) _
  have HRT8 := Lib.hid (HRT.out.below hb8)
  have HE8 := Lib.hid (HBT.out.trans (hb8.mono HBT.out.size))
  clear hw8 hb8 HRT HBT
  have HM8 := Lib.hid (HM6.out.below HE8.out)
  have HRM8 := Lib.hid (HRM6.out.below HE8.out)
  have HXC8 := Lib.hid (HXC6.out.below HE8.out)
  have HXD8 := Lib.hid (HXD6.out.below HE8.out)
  have HGB8 := Lib.hid (HGB6.out.below HE8.out)
  have HRA8 := Lib.hid (HRA6.out.below HE8.out)
  have HRB8 := Lib.hid (HRB6.out.below HE8.out)
  have HRG8 := Lib.hid (HRG6.out.below HE8.out)
  have HB8 := Lib.hid (HB6.out.trans (HE8.out.mono HB6.out.size))
  clear HM6 HRM6 HXC6 HXD6 HGB6 HRA6 HRB6 HRG6 HB6 HE8
  generalize w7.heap.size = b8 at *
  go_wp2_with fail
  go_loopg [9] 3 (fun g2 i wx => ∃ k : Nat, i = .int .i64 k ∧ k ≤ 2 ∧ 2 - k < g2 ∧ Hid (Below w8.heap.size w8 wx))
  case atStart => exact ⟨0, rfl, by omega, by omega, Lib.hid (Below.refl _ _)⟩
  case round =>
    obtain ⟨k, rfl, hk, hg2, HBX⟩ := hrel
    obtain ⟨g, rfl⟩ : ∃ g, gk = g + 1 := ⟨gk - 1, by omega⟩
    have HBB := Lib.hid (HB8.out.trans (HBX.out.mono HB8.out.size))
    by_cases hlt : k < 2
    · have HM9 := Lib.hid (HM8.out.below HBX.out)
      have HRM9 := Lib.hid (HRM8.out.below HBX.out)
      have y0 := HM9.out.at.g0
      have y1 := HM9.out.at.g1
      have y2 := HM9.out.at.g2
      have y3 := HM9.out.at.g3
      have y4 := HM9.out.at.g4
      have y5 := HM9.out.at.g5
      have y6 := HM9.out.at.g6
      have y7 := HM9.out.at.g7
      have y8 := HM9.out.at.g8
      have y9 := HM9.out.at.g9
      have yA := HM9.out.at.gA
      have HTM := Lib.hid (trim_any c A5 c5 wr HRM9.out (by have := HLEN.out; omega) HC.out.op)
      rw [trim_same c HC.out.op, ← HTR.out] at HTM
      go_upto_region 9 with fail
      go_wp2_with fail
      refine HTM.out.mono ?_
      rintro e w9 ⟨U, cu, rfl, hru, hfu, hbu⟩
      have HRU := Lib.hid hru
      have HFU := Lib.hid hfu
      have HBU := Lib.hid hbu
      clear hru hfu hbu HTM y0 y1 y2 y3 y4 y5 y6 y7 y8 y9 yA
      go_upto_region 10 with fail
      obtain ⟨wa, hwa⟩ : ∃ y, y = w9.alloc (.cells (clCells tr U cu) 24) := ⟨_, rfl⟩
      rw [← hwa]
      have HTA := Lib.hid (show ClBlk wa w9.heap.size tr U cu by rw [hwa]; exact ClBlk.new)
      have hba : Below w9.heap.size w9 wa := by rw [hwa]; exact (Below.refl _ _).alloc (Nat.le_refl _) _
      have HRUA := Lib.hid (HRU.out.below hba)
      have HFUA := Lib.hid (HFU.out.below hba)
      have HBA := Lib.hid (HBU.out.trans (hba.mono HBU.out.size))
      have HB8A := Lib.hid (HBX.out.trans (HBA.out.mono HBX.out.size))
      clear hwa hba HRU HFU HBU
      have HMA := Lib.hid (HM8.out.below HB8A.out)
      have HRMA := Lib.hid (HRM8.out.below HB8A.out)
      have HXCA := Lib.hid (HXC8.out.below HB8A.out)
      have HXDA := Lib.hid (HXD8.out.below HB8A.out)
      have HGBA := Lib.hid (HGB8.out.below HB8A.out)
      have HRAA := Lib.hid (HRA8.out.below HB8A.out)
      have HRBA := Lib.hid (HRB8.out.below HB8A.out)
      have HRGA := Lib.hid (HRG8.out.below HB8A.out)
      have HT8A := Lib.hid (HT8.out.below HB8A.out)
      have HRTA := Lib.hid (HRT8.out.below HB8A.out)
      generalize w9.heap.size = bA at *
      have HLTR := Lib.hid (show tr.reqs.length ≤ 9223372036854775807 from by
        have := HLEN.out
        rw [HTR.out]
        unfold rtrim
        split
        · simp [zeroCl]
        · simp only [pickL]
          split
          · omega
          · simp)
      obtain ⟨mb, hmb⟩ : ∃ x, mayB c gl (usesF c.kind) = x := ⟨_, rfl⟩
      obtain ⟨db, hdb⟩ : ∃ x, decB c = x := ⟨_, rfl⟩
      obtain ⟨sb, hsb⟩ : ∃ x, c.same d = x := ⟨_, rfl⟩
      have hst : tr.same tr = true := (Cl.same_iff _ _).2 rfl
      have hsc : c.same c = true := (Cl.same_iff _ _).2 rfl
      have HC1 := Lib.hid (fun w' (h : Below wa.heap.size wa w') => hst ▸ rcallSame_any tr tr U T cu ct w' (HRUA.out.below h) (HRTA.out.below h) HLTR.out HLTR.out)
      have HC2 := Lib.hid (fun w' (h : Below wa.heap.size wa w') => hmb ▸ may_any16 c A5 c5 s G cg gl w' (HRMA.out.below h) (by have := HLEN.out; omega) HC.out.op (HRGA.out.below h) (by have := HLENG.out; omega))
      have HC3 := Lib.hid (fun w' (h : Below wa.heap.size wa w') => hmb ▸ rmay_any c A ca s G cg gl w' (HRAA.out.below h) (by have := HLEN.out; omega) HC.out.op (HRGA.out.below h) (by have := HLENG.out; omega))
      have HC4 := Lib.hid (fun w' => hdb ▸ decides_any c A5 c5 w')
      have HC5 := Lib.hid (fun w' => hdb ▸ rdecides_any c A ca w')
      have HC6 := Lib.hid (fun w' (h : Below wa.heap.size wa w') => hsb ▸ callSame_any c d A5 B c5 cb w' HC.out HD.out (HRMA.out.below h) (HRBA.out.below h) hla hlb)
      have HC7 := Lib.hid (fun w' (h : Below wa.heap.size wa w') => hsb ▸ rcallSame_any c d A B ca cb w' (HRAA.out.below h) (HRBA.out.below h) hla hlb)
      have HC8 := Lib.hid (fun w' (h : Below wa.heap.size wa w') => hsc ▸ rcallSame_any c c A5 A c5 ca w' (HRMA.out.below h) (HRAA.out.below h) hla hla)
      clear hmb hdb hsb hst hsc
      have t0 := fun d os => cell_regrown HTA.out.at.g0 d os
      have t1 := fun d os => cell_regrown HTA.out.at.g1 d os
      have t2 := fun d os => cell_regrown HTA.out.at.g2 d os
      have t3 := fun d os => cell_regrown HTA.out.at.g3 d os
      have t4 := fun d os => cell_regrown HTA.out.at.g4 d os
      have t5 := fun d os => cell_regrown HTA.out.at.g5 d os
      have t6 := fun d os => cell_regrown HTA.out.at.g6 d os
      have t7 := fun d os => cell_regrown HTA.out.at.g7 d os
      have t8 := fun d os => cell_regrown HTA.out.at.g8 d os
      have t9 := fun d os => cell_regrown HTA.out.at.g9 d os
      have tA := fun d os => cell_regrown HTA.out.at.gA d os
      have u0 := fun d os => cell_regrown HT8A.out.at.g0 d os
      have u1 := fun d os => cell_regrown HT8A.out.at.g1 d os
      have u2 := fun d os => cell_regrown HT8A.out.at.g2 d os
      have u3 := fun d os => cell_regrown HT8A.out.at.g3 d os
      have u4 := fun d os => cell_regrown HT8A.out.at.g4 d os
      have u5 := fun d os => cell_regrown HT8A.out.at.g5 d os
      have u6 := fun d os => cell_regrown HT8A.out.at.g6 d os
      have u7 := fun d os => cell_regrown HT8A.out.at.g7 d os
      have u8 := fun d os => cell_regrown HT8A.out.at.g8 d os
      have u9 := fun d os => cell_regrown HT8A.out.at.g9 d os
      have uA := fun d os => cell_regrown HT8A.out.at.gA d os
      have v0 := fun d os => cell_regrown HMA.out.at.g0 d os
      have v1 := fun d os => cell_regrown HMA.out.at.g1 d os
      have v2 := fun d os => cell_regrown HMA.out.at.g2 d os
      have v3 := fun d os => cell_regrown HMA.out.at.g3 d os
      have v4 := fun d os => cell_regrown HMA.out.at.g4 d os
      have v5 := fun d os => cell_regrown HMA.out.at.g5 d os
      have v6 := fun d os => cell_regrown HMA.out.at.g6 d os
      have v7 := fun d os => cell_regrown HMA.out.at.g7 d os
      have v8 := fun d os => cell_regrown HMA.out.at.g8 d os
      have v9 := fun d os => cell_regrown HMA.out.at.g9 d os
      have vA := fun d os => cell_regrown HMA.out.at.gA d os
      have p0 := fun d os => cell_regrown HXCA.out.at.g0 d os
      have p1 := fun d os => cell_regrown HXCA.out.at.g1 d os
      have p2 := fun d os => cell_regrown HXCA.out.at.g2 d os
      have p3 := fun d os => cell_regrown HXCA.out.at.g3 d os
      have p4 := fun d os => cell_regrown HXCA.out.at.g4 d os
      have p5 := fun d os => cell_regrown HXCA.out.at.g5 d os
      have p6 := fun d os => cell_regrown HXCA.out.at.g6 d os
      have p7 := fun d os => cell_regrown HXCA.out.at.g7 d os
      have p8 := fun d os => cell_regrown HXCA.out.at.g8 d os
      have p9 := fun d os => cell_regrown HXCA.out.at.g9 d os
      have pA := fun d os => cell_regrown HXCA.out.at.gA d os
      have q0 := fun d os => cell_regrown HXDA.out.at.g0 d os
      have q1 := fun d os => cell_regrown HXDA.out.at.g1 d os
      have q2 := fun d os => cell_regrown HXDA.out.at.g2 d os
      have q3 := fun d os => cell_regrown HXDA.out.at.g3 d os
      have q4 := fun d os => cell_regrown HXDA.out.at.g4 d os
      have q5 := fun d os => cell_regrown HXDA.out.at.g5 d os
      have q6 := fun d os => cell_regrown HXDA.out.at.g6 d os
      have q7 := fun d os => cell_regrown HXDA.out.at.g7 d os
      have q8 := fun d os => cell_regrown HXDA.out.at.g8 d os
      have q9 := fun d os => cell_regrown HXDA.out.at.g9 d os
      have qA := fun d os => cell_regrown HXDA.out.at.gA d os
      have r0 := fun d os => cell_regrown (HGBA.out.cell 0 _ rfl) d os
      have r1 := fun d os => cell_regrown (HGBA.out.cell 1 _ rfl) d os
      refine wp_region_quiet_below (by kernel_rfl) (by kernel_rfl) ?_
      repeat (quiet_step (first
        | (with_reducible exact Calls.regrown_of (HC1.out _ (below_regrown _ _ _)))
        | (with_reducible exact Calls.regrown_of (HC2.out _ (below_regrown _ _ _)))
        | (with_reducible exact Calls.regrown_of (HC3.out _ (below_regrown _ _ _)))
        | (with_reducible exact Calls.regrown_of (HC4.out _))
        | (with_reducible exact Calls.regrown_of (HC5.out _))
        | (with_reducible exact Calls.regrown_of (HC6.out _ (below_regrown _ _ _)))
        | (with_reducible exact Calls.regrown_of (HC7.out _ (below_regrown _ _ _)))
        | (with_reducible exact Calls.regrown_of (HC8.out _ (below_regrown _ _ _)))))
      refine wpQuiet_nil ?_
      intro _ hw'
      obtain ⟨⟨dq, osq⟩, hw''⟩ := hw'
      subst hw''
      have HBQ := Lib.hid (below_regrown wa dq osq)
      have HBQ2 := Lib.hid (HB8A.out.trans (HBQ.out.mono HB8A.out.size))
      have HTB := Lib.hid (HTA.out.below HBQ.out)
      have HFB := Lib.hid (HFUA.out.below HBQ.out)
      have HBW := Lib.hid (HBA.out.trans (HBQ.out.mono HBA.out.size))
      clear HC1 HC2 HC3 HC4 HC5 HC6 HC7 HC8 HMA HRMA HXCA HXDA HGBA HRAA HRBA HRGA HT8A HRTA HRUA HM9 HRM9 HTA HFUA HBA HB8A HLTR r0 r1 t0 t1 t2 t3 t4 t5 t6 t7 t8 t9 tA u0 u1 u2 u3 u4 u5 u6 u7 u8 u9 uA v0 v1 v2 v3 v4 v5 v6 v7 v8 v9 vA p0 p1 p2 p3 p4 p5 p6 p7 p8 p9 pA q0 q1 q2 q3 q4 q5 q6 q7 q8 q9 qA
      generalize grow (redrawn wa dq) osq = wb at *
      clear HBQ HBQ2
      have HWR := Lib.hid (show wr.heap.size ≤ wb.heap.size from HBW.out.size)
      go_wp2_with fail
      have htl : tr.reqs.length ≤ 60 := by
        have := HLEN.out
        rw [HTR.out]
        unfold rtrim
        split
        · simp [zeroCl]
        · simp only [pickL]
          split
          · omega
          · simp
      go_loopg [11] (tr.reqs.length + 1) (fun g3 i wy => ∃ j : Nat, i = .int .i64 j ∧ j ≤ tr.reqs.length ∧ tr.reqs.length - j < g3 ∧ Hid (ClBlk wy bA tr U cu) ∧ Hid (FreshRow wr.heap.size wy U tr.reqs.length) ∧ Hid (Below wr.heap.size wr wy))
      case atStart => exact ⟨0, rfl, by omega, by omega, HTB, HFB, HBW⟩
      case round =>
        clear HTB HFB HBW
        obtain ⟨j, rfl, hj, hg3, HTY, HFY, HBY⟩ := hrel
        obtain ⟨g3, rfl⟩ : ∃ g3', gk = g3' + 1 := ⟨gk - 1, by omega⟩
        have c8 := HTY.out.at.g8
        by_cases hjl : j < tr.reqs.length
        · have hdj : decide (j < tr.reqs.length) = true := by simpa using hjl
          obtain ⟨ug, us, hU, hug, hus, hul⟩ := HFY.out (by omega)
          subst hU
          obtain ⟨uv, huv⟩ : ∃ v, us[j]? = some v := ⟨us[j], Array.getElem?_eq_getElem (by omega)⟩
          have cj := hus.cell j uv huv
          clear huv
          have fj := hus.fz j
          have lj := hus.lt
          have hne : ug ≠ bA := by
            rintro rfl
            have h1 : (Obj.cells us 3 (0, 0)) = Obj.cells (clCells tr (some ⟨ug, 0, none⟩) cu) 24 (0, 0) := Option.some.inj ((show _ = _ from hus).symm.trans (show _ = _ from HTY.out))
            have h2 := (Obj.cells.inj h1).2.1
            exact absurd h2 (by decide)
          have HTY2 := Lib.hid (show ClBlk (wr.setCell ⟨ug, j, none⟩ (.int .i64 (-5))) bA tr (some ⟨ug, 0, none⟩) cu from BlkT.other HTY.out ⟨ug, j, none⟩ hne _)
          have HFY2 := Lib.hid (show FreshRow _ (wr.setCell ⟨ug, j, none⟩ (.int .i64 (-5))) (some ⟨ug, 0, none⟩) tr.reqs.length from fun _ => ⟨ug, _, rfl, hug, hus.set j _, by simpa using hul⟩)
          have HBY2 := Lib.hid (HBY.out.setCell (p := ⟨ug, j, none⟩) hug (.int .i64 (-5)))
          clear hus hul hne hug
          go_wp2_with fail
          go_roundg g3
          case measure => omega
          case rel => exact ⟨j + 1, by go_num, by omega, by omega, HTY2, HFY2, HBY2⟩
        · obtain rfl : j = tr.reqs.length := by omega
          have hdj : decide (tr.reqs.length < tr.reqs.length) = false := by simp
          have HBZ := Lib.hid (HBX.out.trans (HBY.out.mono HBX.out.size))
          go_wp2_with fail
          go_roundg g
          case measure => omega
          case rel => exact ⟨k + 1, by go_num, by omega, by omega, HBZ⟩
    · obtain rfl : k = 2 := by omega
      have HMZ := Lib.hid (HM8.out.below HBX.out)
      have HXZ := Lib.hid (HXC8.out.below HBX.out)
      have hsc : c.same c = true := (Cl.same_iff _ _).2 rfl
      have HC1 := Lib.hid (hsc ▸ callSame_any c c A5 A c5 ca wr HC.out HC.out (HRM8.out.below HBX.out) (HRA8.out.below HBX.out) hla hla)
      clear hsc
      have v0 := HMZ.out.at.g0
      have p0 := HXZ.out.at.g0
      have v1 := HMZ.out.at.g1
      have p1 := HXZ.out.at.g1
      have v2 := HMZ.out.at.g2
      have p2 := HXZ.out.at.g2
      have v3 := HMZ.out.at.g3
      have p3 := HXZ.out.at.g3
      have v4 := HMZ.out.at.g4
      have p4 := HXZ.out.at.g4
      have v5 := HMZ.out.at.g5
      have p5 := HXZ.out.at.g5
      have v6 := HMZ.out.at.g6
      have p6 := HXZ.out.at.g6
      have v7 := HMZ.out.at.g7
      have p7 := HXZ.out.at.g7
      have v8 := HMZ.out.at.g8
      have p8 := HXZ.out.at.g8
      have v9 := HMZ.out.at.g9
      have p9 := HXZ.out.at.g9
      have vA := HMZ.out.at.gA
      have pA := HXZ.out.at.gA
      go_wp2_with fail
      refine HC1.out.mono ?_
      rintro e wz ⟨rfl, hbz⟩
      have HBZ := Lib.hid (HBB.out.trans (hbz.mono HBB.out.size))
      clear hbz HC1 v0 v1 v2 v3 v4 v5 v6 v7 v8 v9 vA p0 p1 p2 p3 p4 p5 p6 p7 p8 p9 pA
      go_wp2_with fail
      go_ret
      exact ⟨rfl, HBZ.out⟩

set_option maxRecDepth 100000 in
theorem callMay_calls {H : Type} (enc : TypeId × Value → H) (W : World) (base : Nat) (args : Array Value) (ds : List (DataW H)) (p : List MemPlace)
    (hval : ∀ (j : Nat) t v, Try.f3.params[j]? = some t → args[j]? = some v → Value.okWide Try.prog W .any base t v)
    (hA : DataW.TrodAll enc Try.prog W 0 (fun _ => true) true Try.f3.params.toList args.toList ds p)
    (hsz : (DataW.weightsEach Try.prog (Try.f3.params.toList ++ Rows.callMaySpec.plain.varTypes Try.prog) (ds ++ [])).all (· ≤ reachBytes) = true) :
    Calls Try.prog 3 args W fun e W' => e = .returned (.bool true) ∧ Below W.heap.size W W' ∧ (Rows.callMaySpec.fn H (ds ++ [])) = { results := [.lit (.bool true)], args := ds } := by
  rw [Try.params3] at hA hval
  obtain ⟨v0, v1, v2, d0, d1, d2, p0, p1, p2, rfl, rfl, rfl, h0, h1, h2⟩ := trodAll_three hA
  obtain ⟨c, A, ca, rfl, hc, hR0, hl0, hl1⟩ := open_call (hval 0 24 v0 rfl rfl) h0
  obtain ⟨d, B, cb, rfl, hd, hR1, hl2, hl3⟩ := open_call (hval 1 24 v1 rfl rfl) h1
  obtain ⟨s, G, cg, gl, rfl, hR2, _, hl4, hl5⟩ := open_group (hval 2 26 v2 rfl rfl) h2
  exact (callMay_walk c d A B G ca cb cg s gl W hc hd hR0 hR1 hR2 (by omega) (by omega) (by omega)).mono fun e W' h => ⟨h.1, h.2, rfl⟩
end Go.Proofs.Ytgphigpbgiceiaa
