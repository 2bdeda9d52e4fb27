/- The walks of dispatcherref01's Words, Word, Sign, letter, digit, Name. -/
import Derived.Test.YtjfoinikdifgmaaDoorScan2
namespace Go.Proofs.YtjfoinikdifgmaaDoor
open Go.RowKit

set_option maxHeartbeats 400000 in
theorem rletter_any (c : Int) (w : World) : Calls Tryd.prog 33 #[.int .u8 c] w fun e w' => e = .returned (.bool (isLetter c)) ∧ w' = w := by
  unfold isLetter
  by_cases h : 97 ≤ c
  all_goals
    go_enter Tryd.func33, Tryd.ntmps33
    go_wp2
    go_ret
    exact ⟨ret_bool (by first | (simp [h]; done) | (simp; omega)), rfl⟩
set_option maxHeartbeats 400000 in
theorem rdigit_any (c : Int) (w : World) : Calls Tryd.prog 34 #[.int .u8 c] w fun e w' => e = .returned (.bool (isDigit c)) ∧ w' = w := by
  unfold isDigit
  by_cases h : 48 ≤ c
  all_goals
    go_enter Tryd.func34, Tryd.ntmps34
    go_wp2
    go_ret
    exact ⟨ret_bool (by first | (simp [h]; done) | (simp; omega)), rfl⟩

set_option maxHeartbeats 400000 in
set_option maxRecDepth 100000 in
theorem rwords_any (w : World) : Calls Tryd.prog 29 #[] w fun e w' => e = .returned (.slice (some ⟨w.heap.size, 0, none⟩) 43 43) ∧ w' = w.alloc (.cells (scanWords.map Value.string).toArray 9) := by
  go_enter Tryd.func29, Tryd.ntmps29
  go_wp2
  go_ret
  exact ⟨rfl, rfl⟩

theorem beq_data (s : ByteArray) (l : List UInt8) : (s.toList == l) = decide ((⟨l.toArray⟩ : ByteArray) = s) := by
  rw [Bool.eq_iff_iff, decide_eq_true_eq, beq_iff_eq, ByteArray.toList_eq]
  exact ⟨fun h => by rw [← h], fun h => by rw [← h]⟩
theorem containsS_cons (z : ByteArray) (zs : List ByteArray) (s : ByteArray) : Lib.containsS (z :: zs) s = (decide (z = s) || Lib.containsS zs s) := by
  rw [Bool.eq_iff_iff, Lib.containsS_iff, Bool.or_eq_true, Lib.containsS_iff, decide_eq_true_eq, List.mem_cons]
  exact ⟨fun h => h.imp Eq.symm id, fun h => h.imp Eq.symm id⟩
theorem containsS_nil (s : ByteArray) : Lib.containsS [] s = false := by
  rw [← Bool.not_eq_true, Lib.containsS_iff]
  exact List.not_mem_nil
theorem isSign_or (s : ByteArray) : isSign s = (s.toList == [60, 61] || s.toList == [62, 61] || s.toList == [61, 61] || s.toList == [33, 61] || s.toList == [38, 38] || s.toList == [124, 124] || s.toList == [40] || s.toList == [41] || s.toList == [123] || s.toList == [125] || s.toList == [91] || s.toList == [93] || s.toList == [59] || s.toList == [44] || s.toList == [61] || s.toList == [43] || s.toList == [45] || s.toList == [42] || s.toList == [47] || s.toList == [37] || s.toList == [60] || s.toList == [62] || s.toList == [33]) := by
  unfold isSign scanSigns
  simp only [containsS_cons, containsS_nil, beq_data, Bool.or_false, Bool.or_assoc]

set_option maxHeartbeats 4000000 in
set_option maxRecDepth 100000 in
theorem rsign_any (s : ByteArray) (w : World) :
    Calls Tryd.prog 17 #[.string s] w fun e w' => e = .returned (.bool (isSign s)) ∧ w' = w := by
  go_enter Tryd.func17, Tryd.ntmps17
  go_wp2
  all_goals
    go_ret
    refine ⟨ret_bool ?_, rfl⟩
    rw [isSign_or]
    first | (simp [*]; done) | (exfalso; simp_all)

theorem scanWords_cell (w : World) (k : Nat) (hk : k < 43) : (w.alloc (.cells (scanWords.map Value.string).toArray 9)).cell? ⟨w.heap.size, k, none⟩ = some (.string (scanWords.getD k ByteArray.empty)) := by
  have h : k < scanWords.length := hk
  rw [World.cell?_alloc_new, List.getElem?_toArray, List.getElem?_map, List.getElem?_eq_getElem h, List.getD_eq_getElem?_getD, List.getElem?_eq_getElem h]
  rfl
theorem isWord_hit (k : Nat) (s : ByteArray) (hk : k < 43) (h : scanWords.getD k ByteArray.empty = s) : isWord s = true := by
  unfold isWord
  rw [Lib.containsS_iff]
  rw [List.getD_eq_getElem?_getD, List.getElem?_eq_getElem hk, Option.getD_some] at h
  rw [← h]
  exact List.getElem_mem _
theorem isWord_miss (s : ByteArray) (hne : ∀ j, j < 43 → scanWords.getD j ByteArray.empty ≠ s) : isWord s = false := by
  unfold isWord
  rw [← Bool.not_eq_true, Lib.containsS_iff]
  intro hm
  obtain ⟨j, hj, e⟩ := List.mem_iff_getElem.1 hm
  refine hne j hj ?_
  rw [List.getD_eq_getElem?_getD, List.getElem?_eq_getElem hj, Option.getD_some, e]

set_option maxHeartbeats 1000000 in
set_option maxRecDepth 100000 in
theorem rword_any (s : ByteArray) (w : World) :
    Calls Tryd.prog 15 #[.string s] w fun e w' => e = .returned (.bool (isWord s)) ∧ Below w.heap.size w w' := by
  have h0 : ∀ j, j < 43 → (w.alloc (.cells (scanWords.map Value.string).toArray 9)).cell? ⟨w.heap.size, j, none⟩ = some (.string (scanWords.getD j ByteArray.empty)) := fun j hj => scanWords_cell w j hj
  have b0 : Below w.heap.size w (w.alloc (.cells (scanWords.map Value.string).toArray 9)) := (Below.refl _ _).alloc (Nat.le_refl _) _
  have hw := rwords_any w
  generalize w.alloc (.cells (scanWords.map Value.string).toArray 9) = w1 at *
  have H0 := Lib.hid h0
  have B0 := Lib.hid b0
  have HW := Lib.hid hw
  clear h0 b0 hw
  go_enter Tryd.func15, Tryd.ntmps15
  go_wp2_with (refine HW.out.mono ?_; rintro e w' ⟨rfl, rfl⟩)
  go_loopw [4] (fun i wr => ∃ k : Nat, k ≤ 43 ∧ i = .int .i64 k ∧ wr = w' ∧ Hid (∀ j, j < k → scanWords.getD j ByteArray.empty ≠ s)) (fun i _ => 43 - (intOf i).toNat)
  case atStart => exact ⟨0, by omega, rfl, rfl, fun j hj => by omega⟩
  case round =>
    obtain ⟨k, hk, rfl, rfl, hne⟩ := hrel
    by_cases hlt : k < 43
    · have hcell := H0.out k hlt
      by_cases he : scanWords.getD k ByteArray.empty = s
      · have h1 := Lib.hid (isWord_hit k s hlt he)
        rw [he] at hcell
        have he2 : (s.toList == s.toList) = true := by simp
        clear he
        go_wp2
        go_ret
        exact ⟨ret_bool h1.out.symm, B0.out⟩
      · have he2 := (Lib.bytes_beq_false_iff _ _).2 he
        have HE := Lib.hid he
        clear he
        generalize hg : scanWords.getD k ByteArray.empty = g at *
        have HG := Lib.hid hg
        clear hg
        go_wp2
        go_roundw
        case rel =>
          refine ⟨k + 1, by omega, by go_num, trivial, fun j hj => ?_⟩
          rcases Nat.lt_or_ge j k with h | h
          · exact hne j h
          · obtain rfl : j = k := by omega
            rw [HG.out]; exact HE.out
        case measure => simp [intOf]; omega
    · obtain rfl : k = 43 := by omega
      have h1 := Lib.hid (isWord_miss s hne)
      go_wp2
      go_ret
      exact ⟨ret_bool h1.out.symm, B0.out⟩
end Go.Proofs.YtjfoinikdifgmaaDoor
