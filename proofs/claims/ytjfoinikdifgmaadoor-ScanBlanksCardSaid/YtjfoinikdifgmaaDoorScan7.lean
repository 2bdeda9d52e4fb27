/- The walks of scan.blank and scan.first. -/
import Derived.Test.YtjfoinikdifgmaaDoorScan5
import Derived.Test.YtjfoinikdifgmaaDoorTok
import Derived.Laws.Rows
namespace Go.Proofs.YtjfoinikdifgmaaDoor
open Go.RowKit

set_option maxHeartbeats 1000000 in
set_option maxRecDepth 100000 in
theorem blankLen_any (s : ByteArray) (w : World) (hs : s.size ≤ 9223372036854775807) :
    Calls Tryd.prog 37 #[.string s] w fun e w' => e = .returned (.int .i64 (blankLen s.data.toList)) ∧ Below w.heap.size w w' := by
  have hp := fun w => Tryd.strings_HasPrefix s ⟨#[35]⟩ w
  have e35 : Lib.hasPrefix s.data.toList (⟨#[35]⟩ : ByteArray).data.toList = decide (s.data.toList.head? = some 35) := hasHash _
  rw [e35] at hp
  unfold blankLen
  by_cases h : s.data.toList.head? = some 35
  · rw [if_pos h]
    have hd : decide (s.data.toList.head? = some 35) = true := by simp [h]
    rw [hd] at hp
    have hi : ∀ w, Calls Tryd.prog 47 #[.string s, .int .u8 10] w fun e w' => e = .returned (.int .i64 (Lib.indexByte s.data.toList 10)) ∧ w' = w := fun w => Tryd.strings_IndexByte s 10 w
    have hn := indexNl s.data.toList
    have hle := lead_le notNl s.data.toList
    have hlen : s.data.toList.length = s.size := by simp
    rw [hlen] at hn hle
    rw [hn] at hi
    generalize lead notNl s.data.toList = k at *
    have HP := Lib.hid hp
    by_cases hk : k < s.size
    · rw [if_pos hk] at hi
      have HI := Lib.hid hi
      clear hp hi hn hlen hd e35 h
      go_enter Tryd.func37, Tryd.ntmps37
      go_wp2_with fail
      refine (HP.out _).mono ?_
      rintro e w' ⟨rfl, rfl⟩
      go_wp2_with fail
      refine (HI.out _).mono ?_
      rintro e w' ⟨rfl, rfl⟩
      go_wp2_with fail
      go_ret
      exact ⟨rfl, Below.refl _ _⟩
    · rw [if_neg hk] at hi
      have HI := Lib.hid hi
      have hk2 : k = s.size := by omega
      have HK := Lib.hid hk2
      clear hp hi hn hlen hd e35 h hk2
      go_enter Tryd.func37, Tryd.ntmps37
      go_wp2_with fail
      refine (HP.out _).mono ?_
      rintro e w' ⟨rfl, rfl⟩
      go_wp2_with fail
      refine (HI.out _).mono ?_
      rintro e w' ⟨rfl, rfl⟩
      go_wp2_with fail
      go_ret
      exact ⟨ret_int (by rw [HK.out]), Below.refl _ _⟩
  · rw [if_neg h]
    have hd : decide (s.data.toList.head? = some 35) = false := by simp [h]
    rw [hd] at hp
    have hl := fun w => length_blank s w hs
    have HP := Lib.hid hp
    have HL := Lib.hid hl
    clear hp hl hd e35 h
    go_enter Tryd.func37, Tryd.ntmps37
    go_wp2_with fail
    refine (HP.out _).mono ?_
    rintro e w' ⟨rfl, rfl⟩
    go_wp2_with fail
    refine (HL.out _).mono ?_
    rintro e w' ⟨rfl, hb⟩
    have HB := Lib.hid hb
    clear hb
    go_wp2_with fail
    go_ret
    exact ⟨rfl, HB.out⟩

def Tok.agg (t : Tok) : Value := .agg #[.int .u8 t.kind, .string t.text, .int .i64 t.num, .int .i64 t.line, .int .i64 t.col]

set_option maxHeartbeats 2000000 in
set_option maxRecDepth 100000 in
theorem first_word (s : ByteArray) (w : World) (hs : s.size ≤ 100000) (hT : ScanTabs w) (h0 : 0 < lead isNamed s.data.toList) (hl : headLetter s.data.toList = true) :
    Calls Tryd.prog 39 #[.string s] w fun e w' => e = .returned (firstTok s.data.toList).agg ∧ Below w.heap.size w w' := by
  have hlen : s.data.toList.length = s.size := by simp
  have hle := lead_le isNamed s.data.toList
  rw [hlen] at hle
  have hz : 0 < s.size := by omega
  have h255 : (s[0]'hz).toNat < 256 := UInt8.toNat_lt _
  have hlet : isLetter ((s[0]'hz).toNat : Int) = true := by
    rw [← hl]
    unfold headLetter
    have : s.data.toList.head? = some (s[0]'hz) := by
      rw [List.head?_eq_getElem?, List.getElem?_eq_getElem (by rw [hlen]; exact hz)]
      rfl
    rw [this]; rfl
  have hcl := fun w => letter_any ((s[0]'hz).toNat : Int) w
  rw [hlet] at hcl
  have hln := fun w => length_named s w (by omega)
  have hex : s.extract 0 (lead isNamed s.data.toList) = bytesOf (s.data.toList.take (lead isNamed s.data.toList)) := by
    apply ByteArray.ext
    apply Array.ext'
    rw [Lib.extract_data]
    simp [bytesOf]
  have hf : firstTok s.data.toList = ⟨if isWord (bytesOf (s.data.toList.take (lead isNamed s.data.toList))) then 3 else if lead isNamed s.data.toList ≤ 12 then 1 else 0, bytesOf (s.data.toList.take (lead isNamed s.data.toList)), 0, 0, 0⟩ := by
    unfold firstTok
    rw [hl]
    simp [h0]
  rw [← hex] at hf
  rw [hf]
  have hw : ∀ w', Below w.heap.size w w' → Calls Tryd.prog 14 #[.string (s.extract 0 (lead isNamed s.data.toList))] w' fun e w'' => e = .returned (.bool (isWord (s.extract 0 (lead isNamed s.data.toList)))) ∧ w'' = w' := fun w' hb => word_any _ w' (hT.below hb)
  generalize lead isNamed s.data.toList = n at *
  generalize hword : isWord (s.extract 0 n) = b at *
  have HL := Lib.hid hln
  have HC := Lib.hid hcl
  have HW := Lib.hid hw
  have hb0 := (Below.refl w.heap.size w).alloc (Nat.le_refl _) (Obj.cells #[Value.int IntKind.u8 0, Value.string ByteArray.empty, Value.int IntKind.i64 0, Value.int IntKind.i64 0, Value.int IntKind.i64 0] 36)
  have HB0 := Lib.hid hb0
  have HT0 := Lib.hid (TokBlk.new w ⟨0, .empty, 0, 0, 0⟩)
  clear hln hcl hw hword hf hex hT hl hlet hlen hb0
  cases b with
  | true =>
    go_enter Tryd.func39, Tryd.ntmps39
    go_wp2_with fail
    refine (HL.out _).mono ?_
    rintro e w1 ⟨rfl, hb⟩
    have ht1 := HT0.out.below hb
    have hb1 := HB0.out.trans (hb.mono (by simp))
    have f1 := ht1.f 1
    have ht2 := ht1.set1 (s.extract 0 n)
    have hb2 := hb1.setCell (p := ⟨w.heap.size, 1, none⟩) (Nat.le_refl _) (.string (s.extract 0 n))
    have d0 := ht1.c0
    have d1 := ht1.c1
    have d2 := ht1.c2
    have d3 := ht1.c3
    have d4 := ht1.c4
    simp only at d0 d1 d2 d3 d4
    clear hb
    go_wp2_with fail
    refine (HC.out _).mono ?_
    rintro e w2 ⟨rfl, rfl⟩
    go_wp2_with fail
    generalize w2.setCell ⟨w.heap.size, 1, none⟩ (.string (s.extract 0 n)) = w3 at *
    clear d0 d1 d2 d3 d4 f1 ht1 hb1
    have d0 := ht2.c0
    have d1 := ht2.c1
    have d2 := ht2.c2
    have d3 := ht2.c3
    have d4 := ht2.c4
    have f0 := ht2.f 0
    have f1 := ht2.f 1
    have f2 := ht2.f 2
    have f3 := ht2.f 3
    have f4 := ht2.f 4
    simp only at d0 d1 d2 d3 d4
    refine (HW.out _ hb2).mono ?_
    rintro e w4 ⟨rfl, rfl⟩
    go_wp2_with fail
    have hend := (((((ht2.set0 3).set0 3).set1 (s.extract 0 n)).set2 0).set3 0).set4 0
    refine bodyPost_ret (results_cell_row (p := 2) (ty := 36) rfl _ _ w.heap.size _ _ _ _ rfl hend Tryd.underlying36 rfl (by kernel_rfl)) rfl ⟨rfl, ?_⟩
    exact (((((hb2.setCell (p := ⟨_, 0, none⟩) (Nat.le_refl _) _).setCell (p := ⟨_, 0, none⟩) (Nat.le_refl _) _).setCell (p := ⟨_, 1, none⟩) (Nat.le_refl _) _).setCell (p := ⟨_, 2, none⟩) (Nat.le_refl _) _).setCell (p := ⟨_, 3, none⟩) (Nat.le_refl _) _).setCell (p := ⟨_, 4, none⟩) (Nat.le_refl _) _
  | false =>
    by_cases h12 : n ≤ 12
    · have hk : (if (false : Bool) = true then (3 : Int) else if n ≤ 12 then 1 else 0) = 1 := by rw [if_neg (by decide), if_pos h12]
      rw [hk]
      clear hk
      go_enter Tryd.func39, Tryd.ntmps39
      go_wp2_with fail
      refine (HL.out _).mono ?_
      rintro e w1 ⟨rfl, hb⟩
      have ht1 := HT0.out.below hb
      have hb1 := HB0.out.trans (hb.mono (by simp))
      have f1 := ht1.f 1
      have ht2 := ht1.set1 (s.extract 0 n)
      have hb2 := hb1.setCell (p := ⟨w.heap.size, 1, none⟩) (Nat.le_refl _) (.string (s.extract 0 n))
      have d0 := ht1.c0
      have d1 := ht1.c1
      have d2 := ht1.c2
      have d3 := ht1.c3
      have d4 := ht1.c4
      simp only at d0 d1 d2 d3 d4
      clear hb
      go_wp2_with fail
      refine (HC.out _).mono ?_
      rintro e w2 ⟨rfl, rfl⟩
      go_wp2_with fail
      generalize w2.setCell ⟨w.heap.size, 1, none⟩ (.string (s.extract 0 n)) = w3 at *
      clear d0 d1 d2 d3 d4 f1 ht1 hb1
      have d0 := ht2.c0
      have d1 := ht2.c1
      have d2 := ht2.c2
      have d3 := ht2.c3
      have d4 := ht2.c4
      have f0 := ht2.f 0
      have f1 := ht2.f 1
      have f2 := ht2.f 2
      have f3 := ht2.f 3
      have f4 := ht2.f 4
      simp only at d0 d1 d2 d3 d4
      refine (HW.out _ hb2).mono ?_
      rintro e w4 ⟨rfl, rfl⟩
      go_wp2_with fail
      have hend := (((((ht2.set0 1).set0 1).set1 (s.extract 0 n)).set2 0).set3 0).set4 0
      refine bodyPost_ret (results_cell_row (p := 2) (ty := 36) rfl _ _ w.heap.size _ _ _ _ rfl hend Tryd.underlying36 rfl (by kernel_rfl)) rfl ⟨rfl, ?_⟩
      exact (((((hb2.setCell (p := ⟨_, 0, none⟩) (Nat.le_refl _) _).setCell (p := ⟨_, 0, none⟩) (Nat.le_refl _) _).setCell (p := ⟨_, 1, none⟩) (Nat.le_refl _) _).setCell (p := ⟨_, 2, none⟩) (Nat.le_refl _) _).setCell (p := ⟨_, 3, none⟩) (Nat.le_refl _) _).setCell (p := ⟨_, 4, none⟩) (Nat.le_refl _) _
    · have hk : (if (false : Bool) = true then (3 : Int) else if n ≤ 12 then 1 else 0) = 0 := by rw [if_neg (by decide), if_neg h12]
      rw [hk]
      clear hk
      go_enter Tryd.func39, Tryd.ntmps39
      go_wp2_with fail
      refine (HL.out _).mono ?_
      rintro e w1 ⟨rfl, hb⟩
      have ht1 := HT0.out.below hb
      have hb1 := HB0.out.trans (hb.mono (by simp))
      have f1 := ht1.f 1
      have ht2 := ht1.set1 (s.extract 0 n)
      have hb2 := hb1.setCell (p := ⟨w.heap.size, 1, none⟩) (Nat.le_refl _) (.string (s.extract 0 n))
      have d0 := ht1.c0
      have d1 := ht1.c1
      have d2 := ht1.c2
      have d3 := ht1.c3
      have d4 := ht1.c4
      simp only at d0 d1 d2 d3 d4
      clear hb
      go_wp2_with fail
      refine (HC.out _).mono ?_
      rintro e w2 ⟨rfl, rfl⟩
      go_wp2_with fail
      generalize w2.setCell ⟨w.heap.size, 1, none⟩ (.string (s.extract 0 n)) = w3 at *
      clear d0 d1 d2 d3 d4 f1 ht1 hb1
      have d0 := ht2.c0
      have d1 := ht2.c1
      have d2 := ht2.c2
      have d3 := ht2.c3
      have d4 := ht2.c4
      have f0 := ht2.f 0
      have f1 := ht2.f 1
      have f2 := ht2.f 2
      have f3 := ht2.f 3
      have f4 := ht2.f 4
      simp only at d0 d1 d2 d3 d4
      refine (HW.out _ hb2).mono ?_
      rintro e w4 ⟨rfl, rfl⟩
      go_wp2_with fail
      have hend := ((((ht2.set0 0).set1 (s.extract 0 n)).set2 0).set3 0).set4 0
      refine bodyPost_ret (results_cell_row (p := 2) (ty := 36) rfl _ _ w.heap.size _ _ _ _ rfl hend Tryd.underlying36 rfl (by kernel_rfl)) rfl ⟨rfl, ?_⟩
      exact ((((hb2.setCell (p := ⟨_, 0, none⟩) (Nat.le_refl _) _).setCell (p := ⟨_, 1, none⟩) (Nat.le_refl _) _).setCell (p := ⟨_, 2, none⟩) (Nat.le_refl _) _).setCell (p := ⟨_, 3, none⟩) (Nat.le_refl _) _).setCell (p := ⟨_, 4, none⟩) (Nat.le_refl _) _
end Go.Proofs.YtjfoinikdifgmaaDoor
