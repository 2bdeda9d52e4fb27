/- The walks of scan.first where a text begins with no word of letters: numerals, signs. Printed by gen_first.py. -/
import Derived.Test.YtjfoinikdifgmaaDoorScan7
namespace Go.Proofs.YtjfoinikdifgmaaDoor
open Go.RowKit

def signTok : Option ByteArray → Tok
  | some g => ⟨4, g, 0, 0, 0⟩
  | none => ⟨0, .empty, 0, 0, 0⟩
theorem signOf_hit (l : List UInt8) (k : Nat) (hk : k < 23) (h : Lib.hasPrefix l (scanSigns.getD k ByteArray.empty).data.toList = true) (hne : ∀ j, j < k → Lib.hasPrefix l (scanSigns.getD j ByteArray.empty).data.toList = false) : signOf l = some (scanSigns.getD k ByteArray.empty) := by
  have hk' : k < scanSigns.length := hk
  have e : ∀ j (hj : j < scanSigns.length), scanSigns.getD j ByteArray.empty = scanSigns[j] := fun j hj => by rw [List.getD_eq_getElem?_getD, List.getElem?_eq_getElem hj]; rfl
  unfold signOf
  rw [List.find?_eq_some_iff_getElem]
  refine ⟨h, k, hk', (e k hk').symm, fun j hj => ?_⟩
  have := hne j hj
  rw [e j (by omega)] at this
  simpa using this
theorem signOf_miss (l : List UInt8) (hne : ∀ j, j < 23 → Lib.hasPrefix l (scanSigns.getD j ByteArray.empty).data.toList = false) : signOf l = none := by
  unfold signOf
  rw [List.find?_eq_none]
  intro g hg
  obtain ⟨j, hj, rfl⟩ := List.mem_iff_getElem.1 hg
  have := hne j hj
  rw [List.getD_eq_getElem?_getD, List.getElem?_eq_getElem hj, Option.getD_some] at this
  simpa using this
theorem run_index_sign (k : Nat) (hk : k < 23) : ∀ w : World, (Instr.index 50 (.agg signVals) (.int .i64 k)).run Tryd.prog w = .ok (.string (scanSigns.getD k ByteArray.empty)) w := by
  intro w
  have hk' : k < scanSigns.length := hk
  have hv : signVals[k]? = some (.string (scanSigns.getD k ByteArray.empty)) := by
    unfold signVals
    rw [List.getElem?_toArray, List.getElem?_map, List.getElem?_eq_getElem hk', List.getD_eq_getElem?_getD, List.getElem?_eq_getElem hk']
    rfl
  generalize scanSigns.getD k ByteArray.empty = g at *
  generalize signVals = cs at *
  have h1 : (sizeOf 9).run Tryd.prog w = .ok 1 w := by kernel_rfl
  simp [Instr.index, asIntOf, run_underlying Tryd.underlying50, h1, part, hv, hk]

set_option maxHeartbeats 2000000 in
set_option maxRecDepth 100000 in
theorem first_num_a (s : ByteArray) (w : World) (hs : s.size ≤ 100000) (hT : StrTabs w) (hz : 0 < s.size) (hn0 : 0 < lead isNamed s.data.toList) (hlet : isLetter ((s[0]'hz).toNat : Int) = false) (hm : 0 < lead isDigit s.data.toList) :
    Calls Tryd.prog 39 #[.string s] w fun e w' => e = .returned (if numOk (s.data.toList.take (lead isDigit s.data.toList)) then (⟨2, bytesOf (s.data.toList.take (lead isDigit s.data.toList)), valOf (s.data.toList.take (lead isDigit s.data.toList)), 0, 0⟩ : Tok) else ⟨0, .empty, 0, 0, 0⟩).agg ∧ Below w.heap.size w w' := by
  have hlen : s.data.toList.length = s.size := by simp
  have hle := lead_le isNamed s.data.toList
  have hld := lead_le isDigit s.data.toList
  rw [hlen] at hle hld
  have hln := fun w => length_named s w (by omega)
  have hdd := fun w => length_digit s w (by omega)
  have h255 : (s[0]'hz).toNat < 256 := UInt8.toNat_lt _
  have hcl := fun w => letter_any ((s[0]'hz).toNat : Int) w
  rw [hlet] at hcl
  have HC := Lib.hid hcl
  clear hcl
  have HL := Lib.hid hln
  have HT0 := Lib.hid (TokBlk.new w ⟨0, .empty, 0, 0, 0⟩)
  have HB0 := Lib.hid ((Below.refl w.heap.size w).alloc (Nat.le_refl _) (Obj.cells #[Value.int IntKind.u8 0, Value.string ByteArray.empty, Value.int IntKind.i64 0, Value.int IntKind.i64 0, Value.int IntKind.i64 0] 36))
  clear hln hlen

  have hex : s.extract 0 (lead isDigit s.data.toList) = bytesOf (s.data.toList.take (lead isDigit s.data.toList)) := by
    apply ByteArray.ext
    apply Array.ext'
    rw [Lib.extract_data]
    simp [bytesOf]
  have hdat : (s.extract 0 (lead isDigit s.data.toList)).data.toList = s.data.toList.take (lead isDigit s.data.toList) := by rw [Lib.extract_data]; simp
  have hsz : (s.extract 0 (lead isDigit s.data.toList)).size = lead isDigit s.data.toList := by rw [ByteArray.size_extract]; omega
  have hnum : ∀ w', Below w.heap.size w w' → Calls Tryd.prog 51 #[.string (s.extract 0 (lead isDigit s.data.toList))] w' (NumPost (s.data.toList.take (lead isDigit s.data.toList)) w') := fun w' hb => by
    have := number_any (s.extract 0 (lead isDigit s.data.toList)) w' (by rw [hdat]; exact lead_take_digits _) (by omega) (by omega) (hT.below hb)
    rw [hdat] at this
    exact this
  rw [← hex]
  generalize lead isNamed s.data.toList = n at *
  have HLT := Lib.hid hlet
  clear hlet
  generalize lead isDigit s.data.toList = m at *
  generalize s.data.toList.take m = dl at *
  have HD := Lib.hid hdd
  have HNUM := Lib.hid hnum
  clear hdd hnum hdat hsz hex hT
  cases hok : numOk dl with
  | true =>
    have HOK := Lib.hid hok
    clear hok
    rw [if_pos rfl]
    go_enter Tryd.func39, Tryd.ntmps39
    go_wp2_with fail
    refine (HL.out _).mono ?_
    rintro e w1 ⟨rfl, hb⟩
    have ht1 := HT0.out.below hb
    have hb1 := HB0.out.trans (hb.mono (by simp))
    clear hb
    go_wp2_with fail
    refine (HC.out _).mono ?_
    rintro e w2 ⟨rfl, rfl⟩
    go_wp2_with fail
    refine (HD.out _).mono ?_
    rintro e w3 ⟨rfl, hb⟩
    have ht2 := ht1.below hb
    have hb2 := hb1.trans (hb.mono hb1.size)
    clear hb ht1 hb1
    go_wp2_with fail
    refine (HNUM.out _ hb2).mono ?_
    rintro e w4 ⟨⟨v, rfl, hv⟩, hb⟩
    have hv2 := Lib.hid (hv HOK.out)
    have ht3 := ht2.below hb
    have hb3 := hb2.trans (hb.mono hb2.size)
    clear hb ht2 hb2 hv
    have ht2 := ht3
    rw [HOK.out]
    have d0 := ht2.c0
    have d1 := ht2.c1
    have d2 := ht2.c2
    have d3 := ht2.c3
    have d4 := ht2.c4
    have f0 := ht2.f 0
    have f1 := ht2.f 1
    have f2 := ht2.f 2
    have f3 := ht2.f 3
    have f4 := ht2.f 4
    simp only at d0 d1 d2 d3 d4
    go_wp2_with fail
    have hend := (((((((((ht2.set0 2).set1 (s.extract 0 m)).set2 v).set3 0).set4 0).set0 2).set1 (s.extract 0 m)).set2 v).set3 0).set4 0
    rw [← hv2.out]
    refine bodyPost_ret (results_cell_row (p := 2) (ty := 36) rfl _ _ w.heap.size _ _ _ _ rfl hend Tryd.underlying36 rfl (by kernel_rfl)) rfl ⟨rfl, ?_⟩
    exact (((((((((hb3.setCell (p := ⟨_, 0, none⟩) (Nat.le_refl _) _).setCell (p := ⟨_, 1, none⟩) (Nat.le_refl _) _).setCell (p := ⟨_, 2, none⟩) (Nat.le_refl _) _).setCell (p := ⟨_, 3, none⟩) (Nat.le_refl _) _).setCell (p := ⟨_, 4, none⟩) (Nat.le_refl _) _).setCell (p := ⟨_, 0, none⟩) (Nat.le_refl _) _).setCell (p := ⟨_, 1, none⟩) (Nat.le_refl _) _).setCell (p := ⟨_, 2, none⟩) (Nat.le_refl _) _).setCell (p := ⟨_, 3, none⟩) (Nat.le_refl _) _).setCell (p := ⟨_, 4, none⟩) (Nat.le_refl _) _
  | false =>
    have HOK := Lib.hid hok
    clear hok
    rw [if_neg (by decide)]
    go_enter Tryd.func39, Tryd.ntmps39
    go_wp2_with fail
    refine (HL.out _).mono ?_
    rintro e w1 ⟨rfl, hb⟩
    have ht1 := HT0.out.below hb
    have hb1 := HB0.out.trans (hb.mono (by simp))
    clear hb
    go_wp2_with fail
    refine (HC.out _).mono ?_
    rintro e w2 ⟨rfl, rfl⟩
    go_wp2_with fail
    refine (HD.out _).mono ?_
    rintro e w3 ⟨rfl, hb⟩
    have ht2 := ht1.below hb
    have hb2 := hb1.trans (hb.mono hb1.size)
    clear hb ht1 hb1
    go_wp2_with fail
    refine (HNUM.out _ hb2).mono ?_
    rintro e w4 ⟨⟨v, rfl, hv⟩, hb⟩
    have ht3 := ht2.below hb
    have hb3 := hb2.trans (hb.mono hb2.size)
    clear hb ht2 hb2 hv
    have ht2 := ht3
    rw [HOK.out]
    have d0 := ht2.c0
    have d1 := ht2.c1
    have d2 := ht2.c2
    have d3 := ht2.c3
    have d4 := ht2.c4
    have f0 := ht2.f 0
    have f1 := ht2.f 1
    have f2 := ht2.f 2
    have f3 := ht2.f 3
    have f4 := ht2.f 4
    simp only at d0 d1 d2 d3 d4
    go_wp2_with fail
    have hend := ((((ht2.set0 0).set1 .empty).set2 0).set3 0).set4 0
    refine bodyPost_ret (results_cell_row (p := 2) (ty := 36) rfl _ _ w.heap.size _ _ _ _ rfl hend Tryd.underlying36 rfl (by kernel_rfl)) rfl ⟨rfl, ?_⟩
    exact ((((hb3.setCell (p := ⟨_, 0, none⟩) (Nat.le_refl _) _).setCell (p := ⟨_, 1, none⟩) (Nat.le_refl _) _).setCell (p := ⟨_, 2, none⟩) (Nat.le_refl _) _).setCell (p := ⟨_, 3, none⟩) (Nat.le_refl _) _).setCell (p := ⟨_, 4, none⟩) (Nat.le_refl _) _

set_option maxHeartbeats 2000000 in
set_option maxRecDepth 100000 in
theorem first_sign_a (s : ByteArray) (w : World) (hs : s.size ≤ 100000) (hT : ScanTabs w) (hz : 0 < s.size) (hn0 : 0 < lead isNamed s.data.toList) (hlet : isLetter ((s[0]'hz).toNat : Int) = false) (hm : lead isDigit s.data.toList = 0) :
    Calls Tryd.prog 39 #[.string s] w fun e w' => e = .returned (signTok (signOf s.data.toList)).agg ∧ Below w.heap.size w w' := by
  have hlen : s.data.toList.length = s.size := by simp
  have hle := lead_le isNamed s.data.toList
  have hld := lead_le isDigit s.data.toList
  rw [hlen] at hle hld
  have hln := fun w => length_named s w (by omega)
  have hdd := fun w => length_digit s w (by omega)
  have h255 : (s[0]'hz).toNat < 256 := UInt8.toNat_lt _
  have hcl := fun w => letter_any ((s[0]'hz).toNat : Int) w
  rw [hlet] at hcl
  have HC := Lib.hid hcl
  clear hcl
  have HL := Lib.hid hln
  have HT0 := Lib.hid (TokBlk.new w ⟨0, .empty, 0, 0, 0⟩)
  have HB0 := Lib.hid ((Below.refl w.heap.size w).alloc (Nat.le_refl _) (Obj.cells #[Value.int IntKind.u8 0, Value.string ByteArray.empty, Value.int IntKind.i64 0, Value.int IntKind.i64 0, Value.int IntKind.i64 0] 36))
  clear hln hlen

  rw [hm] at hdd
  have HM := Lib.hid hm
  have hrow : ∀ w', Below w.heap.size w w' → ∃ t fr, w'.heap[3]? = some (.cells signVals t fr) := fun w' hb => (hT.below hb).row
  have hpre := fun g w => Tryd.strings_HasPrefix s g w
  generalize lead isNamed s.data.toList = n at *
  have HLT := Lib.hid hlet
  clear hlet
  have HD := Lib.hid hdd
  have HROW := Lib.hid hrow
  have HPRE := Lib.hid hpre
  clear hdd hrow hpre hm hT hld
  go_enter Tryd.func39, Tryd.ntmps39
  go_wp2_with fail
  refine (HL.out _).mono ?_
  rintro e w1 ⟨rfl, hb⟩
  have ht1 := HT0.out.below hb
  have hb1 := HB0.out.trans (hb.mono (by simp))
  clear hb
  go_wp2_with fail
  refine (HC.out _).mono ?_
  rintro e w2 ⟨rfl, rfl⟩
  go_wp2_with fail
  refine (HD.out _).mono ?_
  rintro e w3 ⟨rfl, hb⟩
  have ht2 := ht1.below hb
  have hb2 := hb1.trans (hb.mono hb1.size)
  clear hb ht1 hb1
  obtain ⟨tt, fr, hr⟩ := HROW.out _ hb2
  go_wp2_with (refine wpList_load_row rfl _ _ rfl 3 rfl tt signVals fr _ hr Tryd.underlying50 rfl (by kernel_rfl) ?_)
  go_loop [52] (fun i => ∃ k : Nat, k ≤ 23 ∧ i = .int .i64 k ∧ Hid (∀ j, j < k → Lib.hasPrefix s.data.toList (scanSigns.getD j ByteArray.empty).data.toList = false)) (fun i => 23 - (intOf i).toNat)
  case atStart => exact ⟨0, by omega, rfl, fun j hj => by omega⟩
  case round =>
    obtain ⟨k, hk, rfl, hall⟩ := hrel
    by_cases hlt : k < 23
    · have hidx := run_index_sign k hlt
      have hp := HPRE.out (scanSigns.getD k ByteArray.empty) w3
      cases hpk : Lib.hasPrefix s.data.toList (scanSigns.getD k ByteArray.empty).data.toList with
      | true =>
        have HS := Lib.hid (signOf_hit s.data.toList k hlt hpk hall)
        rw [hpk] at hp
        have HP := Lib.hid hp
        clear hp hpk
        generalize scanSigns.getD k ByteArray.empty = g at *
        have d0 := ht2.c0
        have d1 := ht2.c1
        have d2 := ht2.c2
        have d3 := ht2.c3
        have d4 := ht2.c4
        have f0 := ht2.f 0
        have f1 := ht2.f 1
        have f2 := ht2.f 2
        have f3 := ht2.f 3
        have f4 := ht2.f 4
        simp only at d0 d1 d2 d3 d4
        go_wp2_with (first | (go_at_call 46; refine HP.out.mono ?_; rintro e w' ⟨rfl, rfl⟩))
        have hend := ((((ht2.set0 4).set1 g).set2 0).set3 0).set4 0
        rw [HS.out]
        refine bodyPost_ret (results_cell_row (p := 2) (ty := 36) rfl _ _ w.heap.size _ _ _ _ rfl hend Tryd.underlying36 rfl (by kernel_rfl)) rfl ⟨rfl, ?_⟩
        exact ((((hb2.setCell (p := ⟨_, 0, none⟩) (Nat.le_refl _) _).setCell (p := ⟨_, 1, none⟩) (Nat.le_refl _) _).setCell (p := ⟨_, 2, none⟩) (Nat.le_refl _) _).setCell (p := ⟨_, 3, none⟩) (Nat.le_refl _) _).setCell (p := ⟨_, 4, none⟩) (Nat.le_refl _) _
      | false =>
        have HPF := Lib.hid hpk
        rw [hpk] at hp
        have HP := Lib.hid hp
        clear hp hpk
        generalize hg : scanSigns.getD k ByteArray.empty = g at *
        have HG := Lib.hid hg
        clear hg
        go_wp2_with (first | (go_at_call 46; refine HP.out.mono ?_; rintro e w' ⟨rfl, rfl⟩))
        go_round
        case rel =>
          refine ⟨k + 1, by omega, by go_num, fun j hj => ?_⟩
          rcases Nat.lt_or_ge j k with h | h
          · exact hall j h
          · obtain rfl : j = k := by omega
            rw [HG.out]; exact HPF.out
        case measure => simp [intOf]; omega
    · obtain rfl : k = 23 := by omega
      have HS := Lib.hid (signOf_miss s.data.toList hall)
      have d0 := ht2.c0
      have d1 := ht2.c1
      have d2 := ht2.c2
      have d3 := ht2.c3
      have d4 := ht2.c4
      have f0 := ht2.f 0
      have f1 := ht2.f 1
      have f2 := ht2.f 2
      have f3 := ht2.f 3
      have f4 := ht2.f 4
      simp only at d0 d1 d2 d3 d4
      go_wp2_with fail
      have hend := ((((ht2.set0 0).set1 .empty).set2 0).set3 0).set4 0
      rw [HS.out]
      refine bodyPost_ret (results_cell_row (p := 2) (ty := 36) rfl _ _ w.heap.size _ _ _ _ rfl hend Tryd.underlying36 rfl (by kernel_rfl)) rfl ⟨rfl, ?_⟩
      exact ((((hb2.setCell (p := ⟨_, 0, none⟩) (Nat.le_refl _) _).setCell (p := ⟨_, 1, none⟩) (Nat.le_refl _) _).setCell (p := ⟨_, 2, none⟩) (Nat.le_refl _) _).setCell (p := ⟨_, 3, none⟩) (Nat.le_refl _) _).setCell (p := ⟨_, 4, none⟩) (Nat.le_refl _) _

set_option maxHeartbeats 2000000 in
set_option maxRecDepth 100000 in
theorem first_num_b (s : ByteArray) (w : World) (hs : s.size ≤ 100000) (hT : StrTabs w) (hn0 : lead isNamed s.data.toList = 0) (hm : 0 < lead isDigit s.data.toList) :
    Calls Tryd.prog 39 #[.string s] w fun e w' => e = .returned (if numOk (s.data.toList.take (lead isDigit s.data.toList)) then (⟨2, bytesOf (s.data.toList.take (lead isDigit s.data.toList)), valOf (s.data.toList.take (lead isDigit s.data.toList)), 0, 0⟩ : Tok) else ⟨0, .empty, 0, 0, 0⟩).agg ∧ Below w.heap.size w w' := by
  have hlen : s.data.toList.length = s.size := by simp
  have hle := lead_le isNamed s.data.toList
  have hld := lead_le isDigit s.data.toList
  rw [hlen] at hle hld
  have hln := fun w => length_named s w (by omega)
  have hdd := fun w => length_digit s w (by omega)
  rw [hn0] at hln
  have HL := Lib.hid hln
  have HT0 := Lib.hid (TokBlk.new w ⟨0, .empty, 0, 0, 0⟩)
  have HB0 := Lib.hid ((Below.refl w.heap.size w).alloc (Nat.le_refl _) (Obj.cells #[Value.int IntKind.u8 0, Value.string ByteArray.empty, Value.int IntKind.i64 0, Value.int IntKind.i64 0, Value.int IntKind.i64 0] 36))
  clear hln hlen

  have hex : s.extract 0 (lead isDigit s.data.toList) = bytesOf (s.data.toList.take (lead isDigit s.data.toList)) := by
    apply ByteArray.ext
    apply Array.ext'
    rw [Lib.extract_data]
    simp [bytesOf]
  have hdat : (s.extract 0 (lead isDigit s.data.toList)).data.toList = s.data.toList.take (lead isDigit s.data.toList) := by rw [Lib.extract_data]; simp
  have hsz : (s.extract 0 (lead isDigit s.data.toList)).size = lead isDigit s.data.toList := by rw [ByteArray.size_extract]; omega
  have hnum : ∀ w', Below w.heap.size w w' → Calls Tryd.prog 51 #[.string (s.extract 0 (lead isDigit s.data.toList))] w' (NumPost (s.data.toList.take (lead isDigit s.data.toList)) w') := fun w' hb => by
    have := number_any (s.extract 0 (lead isDigit s.data.toList)) w' (by rw [hdat]; exact lead_take_digits _) (by omega) (by omega) (hT.below hb)
    rw [hdat] at this
    exact this
  rw [← hex]
  have HN0 := Lib.hid hn0
  clear hn0
  generalize lead isDigit s.data.toList = m at *
  generalize s.data.toList.take m = dl at *
  have HD := Lib.hid hdd
  have HNUM := Lib.hid hnum
  clear hdd hnum hdat hsz hex hT
  cases hok : numOk dl with
  | true =>
    have HOK := Lib.hid hok
    clear hok
    rw [if_pos rfl]
    go_enter Tryd.func39, Tryd.ntmps39
    go_wp2_with fail
    refine (HL.out _).mono ?_
    rintro e w1 ⟨rfl, hb⟩
    have ht1 := HT0.out.below hb
    have hb1 := HB0.out.trans (hb.mono (by simp))
    clear hb
    go_wp2_with fail
    refine (HD.out _).mono ?_
    rintro e w3 ⟨rfl, hb⟩
    have ht2 := ht1.below hb
    have hb2 := hb1.trans (hb.mono hb1.size)
    clear hb ht1 hb1
    go_wp2_with fail
    refine (HNUM.out _ hb2).mono ?_
    rintro e w4 ⟨⟨v, rfl, hv⟩, hb⟩
    have hv2 := Lib.hid (hv HOK.out)
    have ht3 := ht2.below hb
    have hb3 := hb2.trans (hb.mono hb2.size)
    clear hb ht2 hb2 hv
    have ht2 := ht3
    rw [HOK.out]
    have d0 := ht2.c0
    have d1 := ht2.c1
    have d2 := ht2.c2
    have d3 := ht2.c3
    have d4 := ht2.c4
    have f0 := ht2.f 0
    have f1 := ht2.f 1
    have f2 := ht2.f 2
    have f3 := ht2.f 3
    have f4 := ht2.f 4
    simp only at d0 d1 d2 d3 d4
    go_wp2_with fail
    have hend := (((((((((ht2.set0 2).set1 (s.extract 0 m)).set2 v).set3 0).set4 0).set0 2).set1 (s.extract 0 m)).set2 v).set3 0).set4 0
    rw [← hv2.out]
    refine bodyPost_ret (results_cell_row (p := 2) (ty := 36) rfl _ _ w.heap.size _ _ _ _ rfl hend Tryd.underlying36 rfl (by kernel_rfl)) rfl ⟨rfl, ?_⟩
    exact (((((((((hb3.setCell (p := ⟨_, 0, none⟩) (Nat.le_refl _) _).setCell (p := ⟨_, 1, none⟩) (Nat.le_refl _) _).setCell (p := ⟨_, 2, none⟩) (Nat.le_refl _) _).setCell (p := ⟨_, 3, none⟩) (Nat.le_refl _) _).setCell (p := ⟨_, 4, none⟩) (Nat.le_refl _) _).setCell (p := ⟨_, 0, none⟩) (Nat.le_refl _) _).setCell (p := ⟨_, 1, none⟩) (Nat.le_refl _) _).setCell (p := ⟨_, 2, none⟩) (Nat.le_refl _) _).setCell (p := ⟨_, 3, none⟩) (Nat.le_refl _) _).setCell (p := ⟨_, 4, none⟩) (Nat.le_refl _) _
  | false =>
    have HOK := Lib.hid hok
    clear hok
    rw [if_neg (by decide)]
    go_enter Tryd.func39, Tryd.ntmps39
    go_wp2_with fail
    refine (HL.out _).mono ?_
    rintro e w1 ⟨rfl, hb⟩
    have ht1 := HT0.out.below hb
    have hb1 := HB0.out.trans (hb.mono (by simp))
    clear hb
    go_wp2_with fail
    refine (HD.out _).mono ?_
    rintro e w3 ⟨rfl, hb⟩
    have ht2 := ht1.below hb
    have hb2 := hb1.trans (hb.mono hb1.size)
    clear hb ht1 hb1
    go_wp2_with fail
    refine (HNUM.out _ hb2).mono ?_
    rintro e w4 ⟨⟨v, rfl, hv⟩, hb⟩
    have ht3 := ht2.below hb
    have hb3 := hb2.trans (hb.mono hb2.size)
    clear hb ht2 hb2 hv
    have ht2 := ht3
    rw [HOK.out]
    have d0 := ht2.c0
    have d1 := ht2.c1
    have d2 := ht2.c2
    have d3 := ht2.c3
    have d4 := ht2.c4
    have f0 := ht2.f 0
    have f1 := ht2.f 1
    have f2 := ht2.f 2
    have f3 := ht2.f 3
    have f4 := ht2.f 4
    simp only at d0 d1 d2 d3 d4
    go_wp2_with fail
    have hend := ((((ht2.set0 0).set1 .empty).set2 0).set3 0).set4 0
    refine bodyPost_ret (results_cell_row (p := 2) (ty := 36) rfl _ _ w.heap.size _ _ _ _ rfl hend Tryd.underlying36 rfl (by kernel_rfl)) rfl ⟨rfl, ?_⟩
    exact ((((hb3.setCell (p := ⟨_, 0, none⟩) (Nat.le_refl _) _).setCell (p := ⟨_, 1, none⟩) (Nat.le_refl _) _).setCell (p := ⟨_, 2, none⟩) (Nat.le_refl _) _).setCell (p := ⟨_, 3, none⟩) (Nat.le_refl _) _).setCell (p := ⟨_, 4, none⟩) (Nat.le_refl _) _

set_option maxHeartbeats 2000000 in
set_option maxRecDepth 100000 in
theorem first_sign_b (s : ByteArray) (w : World) (hs : s.size ≤ 100000) (hT : ScanTabs w) (hn0 : lead isNamed s.data.toList = 0) (hm : lead isDigit s.data.toList = 0) :
    Calls Tryd.prog 39 #[.string s] w fun e w' => e = .returned (signTok (signOf s.data.toList)).agg ∧ Below w.heap.size w w' := by
  have hlen : s.data.toList.length = s.size := by simp
  have hle := lead_le isNamed s.data.toList
  have hld := lead_le isDigit s.data.toList
  rw [hlen] at hle hld
  have hln := fun w => length_named s w (by omega)
  have hdd := fun w => length_digit s w (by omega)
  rw [hn0] at hln
  have HL := Lib.hid hln
  have HT0 := Lib.hid (TokBlk.new w ⟨0, .empty, 0, 0, 0⟩)
  have HB0 := Lib.hid ((Below.refl w.heap.size w).alloc (Nat.le_refl _) (Obj.cells #[Value.int IntKind.u8 0, Value.string ByteArray.empty, Value.int IntKind.i64 0, Value.int IntKind.i64 0, Value.int IntKind.i64 0] 36))
  clear hln hlen

  rw [hm] at hdd
  have HM := Lib.hid hm
  have hrow : ∀ w', Below w.heap.size w w' → ∃ t fr, w'.heap[3]? = some (.cells signVals t fr) := fun w' hb => (hT.below hb).row
  have hpre := fun g w => Tryd.strings_HasPrefix s g w
  have HN0 := Lib.hid hn0
  clear hn0
  have HD := Lib.hid hdd
  have HROW := Lib.hid hrow
  have HPRE := Lib.hid hpre
  clear hdd hrow hpre hm hT hld
  go_enter Tryd.func39, Tryd.ntmps39
  go_wp2_with fail
  refine (HL.out _).mono ?_
  rintro e w1 ⟨rfl, hb⟩
  have ht1 := HT0.out.below hb
  have hb1 := HB0.out.trans (hb.mono (by simp))
  clear hb
  go_wp2_with fail
  refine (HD.out _).mono ?_
  rintro e w3 ⟨rfl, hb⟩
  have ht2 := ht1.below hb
  have hb2 := hb1.trans (hb.mono hb1.size)
  clear hb ht1 hb1
  obtain ⟨tt, fr, hr⟩ := HROW.out _ hb2
  go_wp2_with (refine wpList_load_row rfl _ _ rfl 3 rfl tt signVals fr _ hr Tryd.underlying50 rfl (by kernel_rfl) ?_)
  go_loop [52] (fun i => ∃ k : Nat, k ≤ 23 ∧ i = .int .i64 k ∧ Hid (∀ j, j < k → Lib.hasPrefix s.data.toList (scanSigns.getD j ByteArray.empty).data.toList = false)) (fun i => 23 - (intOf i).toNat)
  case atStart => exact ⟨0, by omega, rfl, fun j hj => by omega⟩
  case round =>
    obtain ⟨k, hk, rfl, hall⟩ := hrel
    by_cases hlt : k < 23
    · have hidx := run_index_sign k hlt
      have hp := HPRE.out (scanSigns.getD k ByteArray.empty) w3
      cases hpk : Lib.hasPrefix s.data.toList (scanSigns.getD k ByteArray.empty).data.toList with
      | true =>
        have HS := Lib.hid (signOf_hit s.data.toList k hlt hpk hall)
        rw [hpk] at hp
        have HP := Lib.hid hp
        clear hp hpk
        generalize scanSigns.getD k ByteArray.empty = g at *
        have d0 := ht2.c0
        have d1 := ht2.c1
        have d2 := ht2.c2
        have d3 := ht2.c3
        have d4 := ht2.c4
        have f0 := ht2.f 0
        have f1 := ht2.f 1
        have f2 := ht2.f 2
        have f3 := ht2.f 3
        have f4 := ht2.f 4
        simp only at d0 d1 d2 d3 d4
        go_wp2_with (first | (go_at_call 46; refine HP.out.mono ?_; rintro e w' ⟨rfl, rfl⟩))
        have hend := ((((ht2.set0 4).set1 g).set2 0).set3 0).set4 0
        rw [HS.out]
        refine bodyPost_ret (results_cell_row (p := 2) (ty := 36) rfl _ _ w.heap.size _ _ _ _ rfl hend Tryd.underlying36 rfl (by kernel_rfl)) rfl ⟨rfl, ?_⟩
        exact ((((hb2.setCell (p := ⟨_, 0, none⟩) (Nat.le_refl _) _).setCell (p := ⟨_, 1, none⟩) (Nat.le_refl _) _).setCell (p := ⟨_, 2, none⟩) (Nat.le_refl _) _).setCell (p := ⟨_, 3, none⟩) (Nat.le_refl _) _).setCell (p := ⟨_, 4, none⟩) (Nat.le_refl _) _
      | false =>
        have HPF := Lib.hid hpk
        rw [hpk] at hp
        have HP := Lib.hid hp
        clear hp hpk
        generalize hg : scanSigns.getD k ByteArray.empty = g at *
        have HG := Lib.hid hg
        clear hg
        go_wp2_with (first | (go_at_call 46; refine HP.out.mono ?_; rintro e w' ⟨rfl, rfl⟩))
        go_round
        case rel =>
          refine ⟨k + 1, by omega, by go_num, fun j hj => ?_⟩
          rcases Nat.lt_or_ge j k with h | h
          · exact hall j h
          · obtain rfl : j = k := by omega
            rw [HG.out]; exact HPF.out
        case measure => simp [intOf]; omega
    · obtain rfl : k = 23 := by omega
      have HS := Lib.hid (signOf_miss s.data.toList hall)
      have d0 := ht2.c0
      have d1 := ht2.c1
      have d2 := ht2.c2
      have d3 := ht2.c3
      have d4 := ht2.c4
      have f0 := ht2.f 0
      have f1 := ht2.f 1
      have f2 := ht2.f 2
      have f3 := ht2.f 3
      have f4 := ht2.f 4
      simp only at d0 d1 d2 d3 d4
      go_wp2_with fail
      have hend := ((((ht2.set0 0).set1 .empty).set2 0).set3 0).set4 0
      rw [HS.out]
      refine bodyPost_ret (results_cell_row (p := 2) (ty := 36) rfl _ _ w.heap.size _ _ _ _ rfl hend Tryd.underlying36 rfl (by kernel_rfl)) rfl ⟨rfl, ?_⟩
      exact ((((hb2.setCell (p := ⟨_, 0, none⟩) (Nat.le_refl _) _).setCell (p := ⟨_, 1, none⟩) (Nat.le_refl _) _).setCell (p := ⟨_, 2, none⟩) (Nat.le_refl _) _).setCell (p := ⟨_, 3, none⟩) (Nat.le_refl _) _).setCell (p := ⟨_, 4, none⟩) (Nat.le_refl _) _
end Go.Proofs.YtjfoinikdifgmaaDoor
