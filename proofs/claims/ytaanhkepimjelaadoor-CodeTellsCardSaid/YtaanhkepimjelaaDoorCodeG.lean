/- The walk of dispatcherref05.Text. -/
import Derived.Test.YtaanhkepimjelaaDoorCodeD
namespace Go.Proofs.YtaanhkepimjelaaDoor
open Go.RowKit Go.Sort
set_option linter.unusedVariables false
set_option linter.unusedSimpArgs false

theorem insText_zero {i : Ins} (h : i.n = 0) : insText i = (opName i.op.toNat).data.toList ++ [10] := by
  unfold insText
  rw [if_pos h]
  rfl
theorem insText_more {i : Ins} (h : i.n ≠ 0) : insText i = (opName i.op.toNat).data.toList ++ (32 :: Lib.itoa i.n ++ [10]) := by
  unfold insText
  rw [if_neg h]

set_option maxHeartbeats 8000000 in
set_option maxRecDepth 100000 in
theorem rtext_any (A B : Option Addr) (cA cB : Nat) (p : Cp) (w : World) (hI : CpIn w A cA B cB p) :
    Calls Tryd.prog 16 #[.agg #[.slice A p.code.length cA, .int .i64 p.vars, .slice B p.arrays.length cB]] w fun e w' =>
      (p.May → e = .returned (.tuple #[.string ⟨(cpText p).toArray⟩, .int .i64 0])) ∧ (¬ p.May → e = .returned (.tuple #[.string ⟨#[]⟩, .int .i64 50])) ∧ Below w.heap.size w w' := by
  have hbn : Below w.heap.size w (w.alloc (.cells #[.slice A p.code.length cA, .int .i64 p.vars, .slice B p.arrays.length cB] 25)) := (Below.refl _ _).alloc (Nat.le_refl _) _
  have hP1 : PgAt (w.alloc (.cells #[.slice A p.code.length cA, .int .i64 p.vars, .slice B p.arrays.length cB] 25)) w.heap.size A p.code.length cA p.vars B p.arrays.length cB := PgAt.new
  have hlc := hI.lc
  have hla := hI.la
  have hvo := hI.vok
  have HI := Lib.hid (hI.below hbn)
  have HBN := Lib.hid hbn
  clear hI hbn
  go_enter Tryd.func16, Tryd.ntmps16
  go_upto_region 1 with fail
  generalize (w.alloc (.cells #[.slice A p.code.length cA, .int .i64 p.vars, .slice B p.arrays.length cB] 25)) = w1 at *
  have q0 := hP1.g0
  have q1 := hP1.g1
  have q2 := hP1.g2
  have HP1 := Lib.hid hP1
  clear hP1
  go_wp2_with fail
  refine (rmay_any A B cA cB p w1 HI.out).mono ?_
  rintro e w2 ⟨rfl, hb2⟩
  have hP2 := HP1.out.below hb2
  clear q0 q1 q2
  have q0 := hP2.g0
  have q1 := hP2.g1
  have q2 := hP2.g2
  have HP2 := Lib.hid hP2
  have HI2 := Lib.hid (HI.out.below hb2)
  have HB2 := Lib.hid (HBN.out.trans (hb2.mono HBN.out.size))
  clear hP2 hb2 HP1 HI HBN
  cases hm : p.mayB
  case false =>
    have HM := Lib.hid (show ¬ p.May from fun h => by rw [Cp.mayB_true h] at hm; cases hm)
    clear hm
    go_wp2_with fail
    go_ret2
    exact ⟨fun h => absurd h HM.out, fun _ => rfl, HB2.out⟩
  case true =>
    have hmay := Cp.mayB_iff.1 hm
    have HM := Lib.hid hmay
    obtain ⟨hao, hn0, hn1, hv0, hv1, hfit, _⟩ := Cp.whole_parts hmay.1
    have hal := arraysOk_len _ _ hao (by decide)
    have HFIT := Lib.hid hfit
    have hil := Lib.itoa_length_le p.vars hvo.1 hvo.2
    clear hm hmay hao hfit
    go_wp2_with fail
    refine (number_any p.vars hvo.1 hvo.2 w2).mono ?_
    rintro e w3 ⟨rfl, hb3⟩
    have HP3 := Lib.hid (HP2.out.below hb3)
    have HI3 := Lib.hid (HI2.out.below hb3)
    have HB3 := Lib.hid (HB2.out.trans (hb3.mono HB2.out.size))
    have hst : (⟨#[118, 97, 114, 115, 32]⟩ ++ ⟨(Lib.itoa p.vars).toArray⟩ ++ ⟨#[10, 97, 114, 114, 97, 121, 115]⟩ : ByteArray) = ⟨(headText p.vars).toArray⟩ := str3 [118, 97, 114, 115, 32] (Lib.itoa p.vars) [10, 97, 114, 114, 97, 121, 115]
    clear hb3 HB2 HI2 HP2 q0 q1 q2
    have hP3 := HP3.out
    have q0 := hP3.g0
    have q1 := hP3.g1
    have q2 := hP3.g2
    go_wp2_with fail
    clear hst q0 q1 q2 hP3
    go_loopg [4, 5] (p.arrays.length + 1) (fun g c i wx => ∃ (k : Nat) (T : ByteArray), c = .string T ∧ i = .int .i64 k ∧ k ≤ p.arrays.length ∧ p.arrays.length - k < g ∧ Hid (T = ⟨(headText p.vars ++ arrText (p.arrays.take k)).toArray⟩) ∧ Hid (Below w3.heap.size w3 wx))
    case atStart => exact ⟨0, _, rfl, rfl, by omega, by omega, by show _ = _; simp [arrText], Below.refl _ _⟩
    case round =>
      obtain ⟨k, T, rfl, rfl, hk, hg, HT, HBW⟩ := hrel
      obtain ⟨g, rfl⟩ : ∃ g, gk = g + 1 := ⟨gk - 1, by omega⟩
      have hP := HP3.out.below HBW.out
      have hts1 := headText_len p.vars hvo.1 hvo.2
      have hts2 := arrText_len (p.arrays.take k) (fun n hn => HI3.out.aok n (List.mem_of_mem_take hn))
      rw [List.length_take, Nat.min_eq_left hk] at hts2
      have hTs : T.size ≤ 33 + 22 * k := by
        rw [HT.out]
        simp only [ByteArray.size, List.size_toArray, List.length_append]
        omega
      clear hts1 hts2
      have q2 := hP.g2
      have hI := HI3.out.below HBW.out
      by_cases hlt : k < p.arrays.length
      · obtain ⟨b1, o1, rfl, hbl, hc⟩ := hI.arrs k hlt
        have hxr := hI.aok _ (List.getElem_mem hlt)
        have HAT := Lib.hid (arrText_take p.arrays k hlt)
        have hil2 := Lib.itoa_length_le p.arrays[k] hxr.1 hxr.2
        generalize p.arrays[k] = x at *
        clear hI hP
        go_wp2_with fail
        refine (number_any x hxr.1 hxr.2 wr).mono ?_
        rintro e w4 ⟨rfl, hb4⟩
        have HBW4 := Lib.hid (HBW.out.trans (hb4.mono HBW.out.size))
        clear hb4 hc q2 HBW hbl
        go_wp2_with fail
        go_roundg g
        case measure => omega
        case rel => exact ⟨k + 1, _, rfl, by go_num, by omega, by omega, Lib.hid (by
          rw [HT.out, HAT.out]
          apply ByteArray.ext
          simp), HBW4⟩
      · have hke : k = p.arrays.length := by omega
        subst hke
        rw [List.take_length] at HT
        have hq0 := hP.g0
        clear hI
        have HW := Lib.hid HBW.out
        go_wp2_with fail
        clear q2 hq0 hP
        go_loopg [4, 6] (p.code.length + 1) (fun g c i wx => ∃ (k : Nat) (T : ByteArray), c = .string T ∧ i = .int .i64 k ∧ k ≤ p.code.length ∧ p.code.length - k < g ∧ Hid (T = ⟨(headText p.vars ++ arrText p.arrays ++ [10] ++ codeText (p.code.take k)).toArray⟩) ∧ Hid (Below w3.heap.size w3 wx))
        case atStart => exact ⟨0, _, rfl, rfl, by omega, by omega, by
          show _ = _
          rw [HT.out]
          apply ByteArray.ext
          simp [codeText], HW⟩
        case round =>
          clear HT HBW HW
          obtain ⟨k, T, rfl, rfl, hk, hg3, HT, HBW⟩ := hrel
          obtain ⟨g3, rfl⟩ : ∃ g3, gk = g3 + 1 := ⟨gk - 1, by omega⟩
          have hP := HP3.out.below HBW.out
          have hts1 := headText_len p.vars hvo.1 hvo.2
          have hts2 := arrText_len p.arrays (fun n hn => HI3.out.aok n hn)
          have hts3 := codeText_len (p.code.take k) (fun i hi => HI3.out.ok i (List.mem_of_mem_take hi))
          rw [List.length_take, Nat.min_eq_left hk] at hts3
          have hTs : T.size ≤ 34 + 22 * p.arrays.length + 29 * k := by
            rw [HT.out]
            simp only [ByteArray.size, List.size_toArray, List.length_append, List.length_cons, List.length_nil]
            omega
          clear hts1 hts2 hts3
          have q0 := hP.g0
          have HI := Lib.hid (HI3.out.below HBW.out)
          by_cases hlt : k < p.code.length
          · obtain ⟨b1, o1, rfl, hbl, c0, c1⟩ := HI.out.code k hlt
            have hxr := HI.out.ok _ (List.getElem_mem hlt)
            have hnr := hxr.2
            have hop := fits_op (HFIT.out _ (List.getElem_mem hlt))
            have HAT := Lib.hid (codeText_take p.code k hlt)
            obtain ⟨j, hj⟩ : ∃ j : Nat, p.code[k].op = (j : Int) + 1 := ⟨(p.code[k].op - 1).toNat, by omega⟩
            have hj29 : j < 29 := by omega
            have HZ := Lib.hid (insText_zero (i := p.code[k]))
            have HM2 := Lib.hid (insText_more (i := p.code[k]))
            have hjn : p.code[k].op.toNat = j + 1 := by omega
            rw [hjn] at HZ HM2
            rw [hj] at c0
            have HAT2 := Lib.hid HAT.out
            generalize insText p.code[k] = it at *
            generalize p.code[k].n = nn at *
            have hns := opName_size (j + 1)
            obtain ⟨nm, hnm⟩ : ∃ nm, opName (j + 1) = nm := ⟨_, rfl⟩
            rw [hnm] at hns
            have HNC := name_any j hj29
            rw [hnm] at HNC HZ HM2
            have HNC := Lib.hid HNC
            clear hP hop hj hjn hxr hnm HAT
            have HPG := Lib.hid (HP3.out.below HBW.out)
            go_wp2_with fail
            refine (HNC.out wr).mono ?_
            rintro e w4 ⟨rfl, hb4⟩
            have HBW4 := Lib.hid (HBW.out.trans (hb4.mono HBW.out.size))
            have q4 := (HPG.out.below hb4).g0
            have c4 := (hb4.cell (World.block_lt_of_cell? _ _ c1)).trans c1
            have HI4 := Lib.hid (HI.out.below hb4)
            clear c0 c1 q0 hb4 hbl HNC
            by_cases hn0 : nn = 0
            · have HZ2 := Lib.hid (HZ.out hn0)
              subst hn0
              go_wp2_with fail
              go_roundg g3
              case measure => omega
              case rel => exact ⟨k + 1, _, rfl, by go_num, by omega, by omega, Lib.hid (by
                rw [HT.out, HAT2.out, HZ2.out]
                apply ByteArray.ext
                simp), HBW4⟩
            · have hnn : (nn != 0) = true := by simpa using hn0
              have hil2 := Lib.itoa_length_le nn hnr.1 hnr.2
              have HM3 := Lib.hid (HM2.out hn0)
              clear hn0
              go_wp2_with fail
              refine (number_any nn hnr.1 hnr.2 w4).mono ?_
              rintro e w5 ⟨rfl, hb5⟩
              have HBW5 := Lib.hid (HBW4.out.trans (hb5.mono HBW4.out.size))
              clear hb5 q4 c4
              go_wp2_with fail
              go_roundg g3
              case measure => omega
              case rel => exact ⟨k + 1, _, rfl, by go_num, by omega, by omega, Lib.hid (by
                rw [HT.out, HAT2.out, HM3.out]
                apply ByteArray.ext
                simp), HBW5⟩
          · have hke : k = p.code.length := by omega
            subst hke
            rw [List.take_length] at HT
            have HE := Lib.hid (HB3.out.trans (HBW.out.mono HB3.out.size))
            clear HI hP
            go_wp2_with fail
            go_ret2
            refine ⟨fun _ => ?_, fun h => absurd HM.out h, HE.out⟩
            rw [HT.out]
            rfl
end Go.Proofs.YtaanhkepimjelaaDoor
