/- The law CodeMore: its walk, and what its row asks. -/
import Derived.Test.YtaanhkepimjelaaDoorCodeX
import Derived.Test.YtaanhkepimjelaaDoorCodeM
import Derived.Test.YtaanhkepimjelaaDoorCodeO
import Derived.Test.YtaanhkepimjelaaDoorCodeTabs
import Derived.Test.YtaanhkepimjelaaDoorRow
namespace Go.Proofs.YtaanhkepimjelaaDoor
open Go.ChangeShapes Go.WideShapes Go.ChangeAt Go.RowKit Go.Sort
set_option linter.unusedVariables false
set_option linter.unusedSimpArgs false

set_option maxHeartbeats 8000000 in
set_option maxRecDepth 100000 in
theorem codeMore_walk (A B : Option Addr) (cA cB : Nat) (p : Cp) (pl : Int) (w : World) (hI : CpIn w A cA B cB p) (hpl : -9223372036854775808 ≤ pl ∧ pl ≤ 9223372036854775807) (hT : CodeTabs w) :
    Calls Tryd.prog 5 #[.agg #[.slice A p.code.length cA, .int .i64 p.vars, .slice B p.arrays.length cB], .int .i64 pl] w fun e w' => e = .returned (.bool true) ∧ Below w.heap.size w w' := by
  obtain ⟨i1, hi1, hz01, hz11, hz21⟩ := info_parts Tryd.infoInt
  have H1 := Lib.hid (And.intro hi1 (And.intro hz01 (And.intro hz11 hz21)))
  clear hi1 hz01 hz11 hz21
  have hlc := hI.lc
  have hla := hI.la
  have hvo := hI.vok
  have hb1 : Below w.heap.size w (w.alloc (.cells #[.slice A p.code.length cA, .int .i64 p.vars, .slice B p.arrays.length cB] 25)) := (Below.refl _ _).alloc (Nat.le_refl _) _
  have hP1 : PgAt (w.alloc (.cells #[.slice A p.code.length cA, .int .i64 p.vars, .slice B p.arrays.length cB] 25)) w.heap.size A p.code.length cA p.vars B p.arrays.length cB := PgAt.new
  have HI := Lib.hid hI
  have HT := Lib.hid hT
  clear hI hT
  go_enter Tryd.func5, Tryd.ntmps5
  go_wp2_with fail
  generalize w.alloc (.cells #[.slice A p.code.length cA, .int .i64 p.vars, .slice B p.arrays.length cB] 25) = w1 at *
  refine (awake_any w1 (HT.out.below hb1)).mono ?_
  rintro e w2 ⟨rfl, hb2⟩
  have hP2 := hP1.below hb2
  have HBW2 := Lib.hid (hb1.trans (hb2.mono hb1.size))
  have q0 := hP2.g0
  have q1 := hP2.g1
  have q2 := hP2.g2
  have HP2 := Lib.hid hP2
  clear hP1 hb1 hb2 hP2
  go_wp2_with fail
  refine (great_any A B cA cB p.code.length p.arrays.length p.vars w2).mono ?_
  rintro e w3 ⟨rfl, hg3⟩
  have hb3 := hg3.below
  have hP3 := HP2.out.below hb3
  have HBW3 := Lib.hid (HBW2.out.trans (hb3.mono HBW2.out.size))
  clear q0 q1 q2
  have q0 := hP3.g0
  have q1 := hP3.g1
  have q2 := hP3.g2
  have HP3 := Lib.hid hP3
  clear hg3 hb3 HP2 HBW2 HT hP3
  cases hgr : (decide (400 < p.code.length) || decide (100 < p.arrays.length))
  case true =>
    clear hgr
    go_wp2_with fail
    go_ret
    exact ⟨rfl, HBW3.out⟩
  case false =>
    have hn4 : p.code.length ≤ 400 ∧ p.arrays.length ≤ 100 := by
      simp only [Bool.or_eq_false_iff, decide_eq_false_iff_not] at hgr
      omega
    clear hgr
    go_wp2_with fail
    refine (may_any A B cA cB p w3 (HI.out.below HBW3.out)).mono ?_
    rintro e w4 ⟨rfl, hb4⟩
    have hP4 := HP3.out.below hb4
    clear q0 q1 q2
    have q0 := hP4.g0
    have q1 := hP4.g1
    have q2 := hP4.g2
    have HBW4 := Lib.hid (HBW3.out.trans (hb4.mono HBW3.out.size))
    have HP4 := Lib.hid hP4
    clear hP4 hb4 HP3 HBW3
    cases hmb : p.mayB
    case false =>
      clear hmb
      go_wp2_with fail
      go_ret
      exact ⟨rfl, HBW4.out⟩
    case true =>
      have HMAY := Lib.hid (Cp.mayB_iff.1 hmb)
      clear hmb
      go_wp2_with fail
      refine (heights_any A B cA cB p w4 (HI.out.below HBW4.out)).mono ?_
      rintro e w5 ⟨h, hb5⟩
      rcases h with ⟨b, l, hwh, ht, rfl, _, hbl⟩ | ⟨hbad, _⟩
      case inr => exact absurd HMAY.out (Cp.may_not hbad)
      have hP5 := HP4.out.below hb5
      clear q0 q1 q2
      have q0 := hP5.g0
      have q1 := hP5.g1
      have q2 := hP5.g2
      have HBW5 := Lib.hid (HBW4.out.trans (hb5.mono HBW4.out.size))
      have HP5 := Lib.hid hP5
      have hll := ht.len
      obtain ⟨ha1, hpos, _, hv0, hv1, _, hlast⟩ := Cp.whole_parts hwh
      have HA1 := Lib.hid ha1
      have HWH := Lib.hid hwh
      have HTD := Lib.hid ht
      have HBL := Lib.hid hbl
      have HLL := Lib.hid hll
      have HLAST := Lib.hid hlast
      have hl4 : l.length ≤ 400 := by omega
      have HI5 := Lib.hid (HI.out.below HBW5.out)
      clear hP5 hb5 HP4 HBW4 HMAY hwh ht hbl hll ha1 hlast HI
      go_wp2_with fail
      clear q0 q1
      go_loopg [7, 8] (p.arrays.length + 1) (fun g c i wx => ∃ k : Nat, c = .int .i64 ((p.arrays.take k).sum) ∧ i = .int .i64 k ∧ k ≤ p.arrays.length ∧ p.arrays.length - k < g ∧ wx = w5)
      case atStart => exact ⟨0, rfl, rfl, by omega, by omega, rfl⟩
      case round =>
        obtain ⟨k, rfl, rfl, hk, hg, rfl⟩ := hrel
        obtain ⟨g, rfl⟩ : ∃ g, gk = g + 1 := ⟨gk - 1, by omega⟩
        by_cases hlt : k < p.arrays.length
        · obtain ⟨b2, o2, rfl, hb2, hc⟩ := HI5.out.arrs k hlt
          have hs1 := arraysOk_sum _ _ (arraysOk_take _ _ k HA1.out) (Int.le_refl _) (by decide)
          have hs2 := arraysOk_sum _ _ (arraysOk_take _ _ (k + 1) HA1.out) (Int.le_refl _) (by decide)
          have hsn : (p.arrays.take (k + 1)).sum = (p.arrays.take k).sum + p.arrays[k] := by
            rw [List.take_succ_eq_append_getElem hlt, List.sum_append]
            simp
          rw [hsn] at hs2
          have HSN := Lib.hid hsn
          clear hsn
          generalize p.arrays[k] = x at *
          generalize (p.arrays.take k).sum = sm at *
          go_wp2_with fail
          go_roundg g
          case measure => omega
          case rel => exact ⟨k + 1, by rw [HSN.out], by go_num, by omega, by omega, rfl⟩
        · have hke : k = p.arrays.length := by omega
          subst hke
          rw [List.take_length]
          have hs1 := arraysOk_sum _ _ HA1.out (Int.le_refl _) (by decide)
          generalize hsum : p.arrays.sum = sm at *
          have HSUM := Lib.hid hsum
          generalize hw5 : wr = w5' at *
          clear hw5 hsum hk hg hlt
          have hq5 := HP5.out
          have q0 := hq5.g0
          have q1 := hq5.g1
          clear hq5
          go_wp2_with fail
          refine (copy_any A B cA cB p w5' HI5.out (by omega) (by omega)).mono ?_
          rintro e wA ⟨⟨A2, B2, cA2, cB2, rfl, ho1, ho2⟩, hbA⟩
          clear q0 q1 q2
          have HIA := Lib.hid (cpIn_own (q := p) ho1 ho2 HI5.out.ok HI5.out.aok hvo)
          have HBA := Lib.hid hbA
          clear ho1 ho2
          go_upto_region 12 with fail
          have hbB : Below wA.heap.size wA (wA.alloc (.cells #[.slice A2 p.code.length cA2, .int .i64 p.vars, .slice B2 p.arrays.length cB2] 25)) := (Below.refl _ _).alloc (Nat.le_refl _) _
          have hQB : PgBlk (wA.alloc (.cells #[.slice A2 p.code.length cA2, .int .i64 p.vars, .slice B2 p.arrays.length cB2] 25)) wA.heap.size A2 p.code.length cA2 p.vars B2 p.arrays.length cB2 := PgBlk.new
          generalize wA.alloc (.cells #[.slice A2 p.code.length cA2, .int .i64 p.vars, .slice B2 p.arrays.length cB2] 25) = wB at *
          generalize hQ : wA.heap.size = Q at *
          have g1 := hQB.at.g1
          have f1 := hQB.fz 1
          have hQl := hQB.lt
          have HQC := Lib.hid (hQB.set1 (p.vars + 1))
          have hbC := hbB.setCell (p := ⟨Q, 1, none⟩) (Nat.le_of_eq rfl) (.int .i64 (p.vars + 1))
          have hP5C := ((HP5.out.below HBA.out).below (by rw [hQ]; exact hbC))
          have q0 := hP5C.g0
          have q1 := hP5C.g1
          have q2 := hP5C.g2
          have HP5C := Lib.hid hP5C
          have HIC := Lib.hid (HIA.out.below (by rw [hQ]; exact hbC))
          have HBC := Lib.hid (HBA.out.trans (hbC.mono (by rw [← hQ]; exact HBA.out.size)))
          clear hbA hbB hP5C hbC HIA hQB
          go_upto_region 13 with fail
          clear g1 f1 hQl
          generalize wB.setCell ⟨Q, 1, none⟩ (.int .i64 (p.vars + 1)) = wC at *
          go_wp2_with fail
          refine (copy_any A B cA cB p wC (HI5.out.below HBC.out) (by omega) (by omega)).mono ?_
          rintro e wD ⟨⟨A3, B3, cA3, cB3, rfl, ho1, ho2⟩, hbD⟩
          clear q0 q1 q2
          have HO1 := Lib.hid ho1
          have HO2 := Lib.hid ho2
          have HBD := Lib.hid hbD
          clear ho1 ho2 hbD
          go_upto_region 14 with fail
          have hRE : PgBlk (wD.alloc (.cells #[.slice A3 p.code.length cA3, .int .i64 p.vars, .slice B3 p.arrays.length cB3] 25)) wD.heap.size A3 p.code.length cA3 p.vars B3 p.arrays.length cB3 := PgBlk.new
          have HO3 := Lib.hid ((HO1.out.alloc (.cells #[.slice A3 p.code.length cA3, .int .i64 p.vars, .slice B3 p.arrays.length cB3] 25)).alloc (.cells #[.int .i64 pl] 3))
          have HO4 := Lib.hid ((HO2.out.alloc (.cells #[.slice A3 p.code.length cA3, .int .i64 p.vars, .slice B3 p.arrays.length cB3] 25)).alloc (.cells #[.int .i64 pl] 3))
          have HBE := Lib.hid ((HBD.out.alloc HBD.out.size (.cells #[.slice A3 p.code.length cA3, .int .i64 p.vars, .slice B3 p.arrays.length cB3] 25)).alloc (Nat.le_trans HBD.out.size (by simp)) (.cells #[.int .i64 pl] 3))
          have HRD := Lib.hid HBD.out.size
          generalize wD.alloc (.cells #[.slice A3 p.code.length cA3, .int .i64 p.vars, .slice B3 p.arrays.length cB3] 25) = wE at *
          generalize hR : wD.heap.size = R at *
          have HRE := Lib.hid (hRE.below ((Below.refl _ _).alloc (Nat.le_refl _) (.cells #[.int .i64 pl] 3)))
          have HNEWS := Lib.hid (World.news_of_block (w := wE.alloc (.cells #[.int .i64 pl] 3)) (B := wE.heap.size) (cs := #[.int .i64 pl]) (t := 3) (fr := (0, 0)) (heap_alloc_new _ _))
          have HONE := Lib.hid (show ∀ u ∈ [Value.int .i64 pl], u.oneCell' = true by simp [Value.oneCell'])
          have H63 := Lib.hid (show p.arrays.length + 1 ≤ maxLen by unfold maxLen; omega)
          have HBY := Lib.hid (show (p.arrays.length + 1) * 8 ≤ 140737488355328 by omega)
          have HBASE := Lib.hid HBE.out.size
          have g2 := hRE.at.g2
          clear HO1 HO2 HBD hRE
          go_wp2_with (at_builtin; refine wpList_append_lies _ rfl (.tmp 54) (.tmp 56) 23 rfl wC.heap.size 3 i1 _ 1 8 Tryd.underlying23 H1.out.1 H1.out.2.1 H1.out.2.2.1 H1.out.2.2.2 rfl (by decide) (.slice B3 p.arrays.length cB3) p.arrays.length _ rfl HO4.out ⟨wE.heap.size, 0, none⟩ 1 1 [Value.int .i64 pl] rfl rfl HNEWS.out HONE.out (by decide) H63.out HBY.out HBASE.out _ rfl ?_)
          intro g3 cap wF hown hgrow _ _
          have HO5 := Lib.hid (HO3.out.kept hgrow (own_ne2 HO3.out HO4.out (by decide)))
          have hRF : PgBlk wF R A3 p.code.length cA3 p.vars B3 p.arrays.length cB3 := (hgrow.block R HRE.out.lt (fun e => own_ne_blk HO4.out HRE.out (by decide) e.symm)).trans HRE.out
          have HO6 := Lib.hid hown
          have HBF := Lib.hid (below_grown5 HBE.out hgrow HBASE.out (fun g hg => (HO4.out.lt g hg).1))
          have HRF := Lib.hid hRF
          have f2 := hRF.fz 2
          have g2 := hRF.at.g2
          have hRl := hRF.lt
          clear HO3 HO4 HBE HRE HNEWS HONE H63 HBY HBASE hown hgrow hRF
          go_upto_region 15 with fail
          clear g2 f2 hRl
          have HRG := Lib.hid (HRF.out.set2 (some ⟨g3, 0, none⟩) (p.arrays.length + 1) cap)
          have HO7 := Lib.hid (ownsRow_setCell_other HO5.out (a := ⟨R, 2, none⟩) (own_ne_blk HO5.out HRF.out (by decide)) (.slice (some ⟨g3, 0, none⟩) (p.arrays.length + 1) cap))
          have HO8 := Lib.hid (ownsRow_setCell_other HO6.out (a := ⟨R, 2, none⟩) (own_ne_blk HO6.out HRF.out (by decide)) (.slice (some ⟨g3, 0, none⟩) (p.arrays.length + 1) cap))
          have HBG := Lib.hid (HBF.out.setCell (p := ⟨R, 2, none⟩) HRD.out (.slice (some ⟨g3, 0, none⟩) (p.arrays.length + 1) cap))
          clear HO5 HO6 HBF HRF
          generalize wF.setCell ⟨R, 2, none⟩ (.slice (some ⟨g3, 0, none⟩) (p.arrays.length + 1) cap) = wG at *
          have HQG := Lib.hid (HQC.out.below HBG.out)
          have HIG := Lib.hid ((HIC.out.below HBG.out).vars (v := p.vars + 1) (by omega))
          have HPG := Lib.hid (HP5C.out.below HBG.out)
          have HBLG := Lib.hid ((HBL.out.below HBC.out).below HBG.out)
          have hIR : CpIn wG A3 cA3 (some ⟨g3, 0, none⟩) cap ⟨p.code, p.vars, p.arrays ++ [pl]⟩ := cpIn_own HO7.out (by
            simp only [List.length_append, List.length_singleton, List.map_append, List.map_cons, List.map_nil]
            exact HO8.out) HI5.out.ok (fun n hn => by
            rcases List.mem_append.1 hn with h | h
            · exact HI5.out.aok n h
            · rw [List.mem_singleton.1 h]; exact hpl) hvo
          have HIR := Lib.hid hIR
          have HBWG := Lib.hid (HBC.out.trans (HBG.out.mono HBC.out.size))
          clear hIR HO7 HO8 HQC HIC HP5C HBC HBG HBL HRD
          have q0 := HQG.out.at.g0
          have q1 := HQG.out.at.g1
          have q2 := HQG.out.at.g2
          go_wp2_with fail
          refine (heights_any A2 B2 cA2 cB2 ⟨p.code, p.vars + 1, p.arrays⟩ wG HIG.out).mono ?_
          rintro e wH hH
          have hbH := hH.2
          obtain ⟨mv, mn, b2, rfl, hB2, hM⟩ := heights_ways hH HTD.out HBLG.out
          simp only [may_vars HWH.out HTD.out] at hM
          have HM := Lib.hid hM
          have HB2 := Lib.hid hB2
          have HRH := Lib.hid (HRG.out.below hbH)
          have HIRH := heights_any A3 (some ⟨g3, 0, none⟩) cA3 cap ⟨p.code, p.vars, p.arrays ++ [pl]⟩ wH (HIR.out.below hbH)
          simp only [List.length_append, List.length_singleton] at HIRH
          have HIRH := Lib.hid HIRH
          have HPH := Lib.hid (HPG.out.below hbH)
          have HBLH := Lib.hid (HBLG.out.below hbH)
          have HBWH := Lib.hid (HBWG.out.trans (hbH.mono HBWG.out.size))
          clear hM hB2 hbH hH q0 q1 q2 HRG HIR HPG HBLG HBWG HQG HIG
          have q0 := HRH.out.at.g0
          have q1 := HRH.out.at.g1
          have q2 := HRH.out.at.g2
          go_wp2_with fail
          refine HIRH.out.mono ?_
          rintro e wI hH
          have hbH := hH.2
          obtain ⟨nv, nn, b3, rfl, hB3, hN⟩ := heights_ways hH HTD.out HBLH.out
          simp only [may_arr HWH.out HTD.out, HSUM.out] at hN
          have HN := Lib.hid hN
          have HB2I := Lib.hid (HB2.out.below hbH)
          have HB3I := Lib.hid hB3
          have HPI := Lib.hid (HPH.out.below hbH)
          have HBLI := Lib.hid (HBLH.out.below hbH)
          have HBWI := Lib.hid (HBWH.out.trans (hbH.mono HBWH.out.size))
          clear hN hB3 hbH hH q0 q1 q2 HRH HPH HBLH HBWH HB2 HIRH
          have q0 := HPI.out.g0
          have q1 := HPI.out.g1
          have q2 := HPI.out.g2
          go_upto_region 17 with fail
          have hN3 : ((1 ≤ pl ∧ pl ≤ 1000 - sm) ∧ nv = .slice (some ⟨b3, 0, none⟩) l.length l.length ∧ nn = 0) ∨ ((pl < 1 ∧ True) ∧ nv = .slice none 0 0 ∧ nn = 50) ∨ ((1 ≤ pl ∧ 1000 - sm < pl) ∧ nv = .slice none 0 0 ∧ nn = 50) := by
            rcases HN.out with h | ⟨h1, h2⟩
            · exact .inl h
            · by_cases h3 : pl < 1
              · exact .inr (.inl ⟨⟨h3, trivial⟩, h2⟩)
              · exact .inr (.inr ⟨⟨by omega, by omega⟩, h2⟩)
          have hM2 := HM.out
          clear HM HN HSUM
          have HIW := Lib.hid HBWI.out
          rcases hM2 with ⟨t1, rfl, rfl⟩ | ⟨t1, rfl, rfl⟩ <;> rcases hN3 with ⟨⟨t2, t3⟩, rfl, rfl⟩ | ⟨⟨t2, t3⟩, rfl, rfl⟩ | ⟨⟨t2, t3⟩, rfl, rfl⟩
          all_goals
            go_wp2_with fail
            clear q0 q1 q2
            go_loopg [15] (l.length + 1) (fun g i wx => ∃ k : Nat, i = .int .i64 k ∧ k ≤ l.length ∧ l.length - k < g ∧ ∃ n, Hid (wx = wI.drewN n))
            case atStart => exact ⟨0, rfl, by omega, by omega, 0, rfl⟩
            case round =>
              obtain ⟨k, rfl, hk, hg, n, HW⟩ := hrel
              obtain ⟨g2, rfl⟩ : ∃ g2, gk = g2 + 1 := ⟨gk - 1, by omega⟩
              have hgr : RowKit.Below wI.heap.size wI wr := by rw [HW.out]; exact Gr.below ⟨n, #[], by rw [grow_empty]⟩
              by_cases hlt : k < l.length
              · have c0 := (HBLI.out.below hgr).get k hlt
                have c1 := (HB2I.out.below hgr).get k hlt
                have c2 := (HB3I.out.below hgr).get k hlt
                generalize l[k] = y at *
                go_upto_region 22 with fail
                go_quiet (fail)
                clear c0 c1 c2
                go_wp2_with fail
                go_roundg g2
                case measure => omega
                case rel => exact ⟨k + 1, by go_num, by omega, by omega, n + nq, Lib.hid (by rw [HW.out, World.drewN_drewN])⟩
              · have HBJ := Lib.hid (HBWI.out.trans (hgr.mono HBWI.out.size))
                have hpj := HPI.out.below hgr
                have q0 := hpj.g0
                have q1 := hpj.g1
                have q2 := hpj.g2
                clear hpj hgr HW
                go_wp2_with fail
                refine (copy_any A B cA cB p wr (HI5.out.below HBJ.out) (by omega) (by omega)).mono ?_
                rintro e wK ⟨⟨A4, B4, cA4, cB4, rfl, ho1, ho2⟩, hbK⟩
                have HIK := Lib.hid (cpIn_own (q := p) ho1 ho2 HI5.out.ok HI5.out.aok hvo)
                have HKL := Lib.hid ((Below.refl wK.heap.size wK).alloc (Nat.le_refl _) (.cells #[.slice A4 p.code.length cA4, .int .i64 p.vars, .slice B4 p.arrays.length cB4] 25))
                have hBK := HBJ.out.trans (hbK.mono HBJ.out.size)
                have HBL2 := Lib.hid (hBK.alloc hBK.size (.cells #[.slice A4 p.code.length cA4, .int .i64 p.vars, .slice B4 p.arrays.length cB4] 25))
                have HSZ := Lib.hid hBK.size
                clear ho1 ho2 hbK q0 q1 q2 hBK
                go_upto_region 25 with fail
                have hSL : PgBlk (wK.alloc (.cells #[.slice A4 p.code.length cA4, .int .i64 p.vars, .slice B4 p.arrays.length cB4] 25)) wK.heap.size A4 p.code.length cA4 p.vars B4 p.arrays.length cB4 := PgBlk.new
                generalize wK.alloc (.cells #[.slice A4 p.code.length cA4, .int .i64 p.vars, .slice B4 p.arrays.length cB4] 25) = wL at *
                generalize hS : wK.heap.size = S at *
                have q0 := hSL.at.g0
                have q1 := hSL.at.g1
                have q2 := hSL.at.g2
                have f0 := hSL.fz 0
                have hl0 := hSL.lt
                have HSL := Lib.hid hSL
                clear hSL
                by_cases h2 : p.code.length < 2
                · have h1 : p.code.length = 1 := by omega
                  have HE := Lib.hid ((HBW5.out.trans (HBL2.out.mono HBW5.out.size)))
                  rw [h1] at q0
                  go_wp2_with fail
                  go_ret
                  exact ⟨rfl, HE.out⟩
                · have hcap := HIK.out.lc
                  go_upto_region 28 with fail
                  clear q0 q1 q2 f0 hl0
                  obtain ⟨n2, hn2⟩ : ∃ n2, p.code.length = n2 + 2 := ⟨p.code.length - 2, by omega⟩
                  have e1 : p.code.length - 1 = n2 + 1 := by omega
                  have HSM := Lib.hid (HSL.out.set0 A4 (p.code.length - 1) cA4)
                  have HKM := Lib.hid (HKL.out.setCell (p := ⟨S, 0, none⟩) (Nat.le_refl _) (.slice A4 (p.code.length - 1) cA4))
                  have HBM := Lib.hid (HBL2.out.setCell (p := ⟨S, 0, none⟩) HSZ.out (.slice A4 (p.code.length - 1) cA4))
                  rw [e1] at HSM HKM HBM ⊢
                  generalize wL.setCell ⟨S, 0, none⟩ (.slice A4 (n2 + 1) cA4) = wM at *
                  have hIM := (HIK.out.below (by rw [hS]; exact HKM.out)).take (n2 + 1)
                  have htl : (p.code.take (n2 + 1)).length = n2 + 1 := by rw [List.length_take]; omega
                  have hMay := may_any A4 B4 cA4 cB4 _ wM hIM
                  simp only [htl] at hMay
                  have HMay := Lib.hid hMay
                  have HIM := Lib.hid hIM
                  clear hMay hIM
                  have q0 := HSM.out.at.g0
                  have q1 := HSM.out.at.g1
                  have q2 := HSM.out.at.g2
                  go_wp2_with fail
                  refine HMay.out.mono ?_
                  rintro e wN ⟨rfl, hbN⟩
                  have HE := Lib.hid (HBW5.out.trans ((HBM.out.trans (hbN.mono HBM.out.size)).mono HBW5.out.size))
                  clear q0 q1 q2
                  have hSN := (HSM.out.below hbN).at
                  have q0 := hSN.g0
                  obtain ⟨b4, o4, rfl, hb4, c0, c1⟩ := (HIM.out.below hbN).code n2 (by rw [htl]; omega)
                  clear hSN hbN
                  cases hm : (Cp.mk (p.code.take (n2 + 1)) p.vars p.arrays).mayB
                  case false =>
                    clear hm
                    go_wp2_with fail
                    go_ret
                    exact ⟨rfl, HE.out⟩
                  case true =>
                    have h29 := (Cp.whole_parts (Cp.mayB_iff.1 hm).1).2.2.2.2.2.2
                    simp only [htl, Nat.add_sub_cancel] at h29
                    rw [h29 (by omega)] at c0
                    clear hm h29
                    go_wp2_with fail
                    go_ret
                    exact ⟨rfl, HE.out⟩

set_option maxRecDepth 100000 in
theorem codeMore_calls {H : Type} (enc : TypeId × Value → H) (W : World) (base : Nat) (args : Array Value) (ds : List (DataW H)) (p : List MemPlace)
    (hval : ∀ (j : Nat) t v, Tryd.f5.params[j]? = some t → args[j]? = some v → Value.okWide Tryd.prog W .any base t v)
    (hA : DataW.TrodAll enc Tryd.prog W 0 (fun _ => true) true Tryd.f5.params.toList args.toList ds p)
    (hsz : (DataW.weightsEach Tryd.prog (Tryd.f5.params.toList ++ Rows.codeMoreSpec.plain.varTypes Tryd.prog) (ds ++ [])).all (· ≤ reachBytes) = true)
    (hL : laidMetH Tryd.prog Rows.codeMoreRow.laid W) :
    Calls Tryd.prog 5 args W fun e W' => e = .returned (.bool true) ∧ Below W.heap.size W W' ∧ (Rows.codeMoreSpec.fn H (ds ++ [])) = { results := [.lit (.bool true)], args := ds } := by
  have hT : CodeTabs W := codeTabs_of (by kernel_rfl) hL (by repeat (first | exact List.mem_cons_self | apply List.mem_cons_of_mem)) (by repeat (first | exact List.mem_cons_self | apply List.mem_cons_of_mem))
  rw [Tryd.params5] at hA hval
  obtain ⟨v0, v1, d0, d1, p0, p1, rfl, rfl, rfl, h0, h1⟩ := trodAll_two hA
  obtain ⟨A, B, cA, cB, q, rfl, hI⟩ := open_prog5 (hval 0 25 v0 rfl rfl) h0
  obtain ⟨x, rfl, rfl, rfl, wx⟩ := open_int Tryd.underlying3 (hval 1 3 v1 rfl rfl) h1
  exact (codeMore_walk A B cA cB q x W hI (bounds_i64 wx) hT).mono fun e W' h => ⟨h.1, h.2, rfl⟩
end Go.Proofs.YtaanhkepimjelaaDoor
