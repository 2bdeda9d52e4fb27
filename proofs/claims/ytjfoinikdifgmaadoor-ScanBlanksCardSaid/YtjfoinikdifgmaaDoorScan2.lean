/- The walks of scan.Word, Sign, Name. -/
import Derived.Test.YtjfoinikdifgmaaDoorScan1
namespace Go.Proofs.YtjfoinikdifgmaaDoor
open Go.RowKit

def signVals : Array Value := (scanSigns.map Value.string).toArray
/-- What is laid of package scan. -/
structure ScanTabs (w : World) : Prop where
  words : ∀ j, j < 43 → w.cell? ⟨2, j, none⟩ = some (.string (scanWords.getD j ByteArray.empty))
  signs : ∀ j, j < 23 → w.cell? ⟨3, j, none⟩ = some (.string (scanSigns.getD j ByteArray.empty))
  row : ∃ t fr, w.heap[3]? = some (.cells signVals t fr)
theorem ScanTabs.below {w w' : World} (h : ScanTabs w) (hb : Below w.heap.size w w') : ScanTabs w' where
  words := fun j hj => cell_later hb (h.words j hj)
  signs := fun j hj => cell_later hb (h.signs j hj)
  row := by
    obtain ⟨t, fr, hr⟩ := h.row
    exact ⟨t, fr, (hb.block _ (Array.getElem?_eq_some_iff.1 hr).1).trans hr⟩

set_option maxHeartbeats 1000000 in
set_option maxRecDepth 100000 in
theorem word_any (s : ByteArray) (w : World) (hT : ScanTabs w) :
    Calls Tryd.prog 14 #[.string s] w fun e w' => e = .returned (.bool (isWord s)) ∧ w' = w := by
  have hI : Calls Tryd.prog 28 #[.slice (some ⟨2, 0, none⟩) 43 43, .string s] w fun e w' => e = .returned (.bool (Lib.containsS scanWords s)) ∧ w' = w :=
    Tryd.slices_Contains_string 2 0 43 43 scanWords s w (by decide) (by decide) (fun j hj => by rw [Nat.zero_add]; exact hT.words j hj)
  clear hT
  unfold isWord
  generalize Lib.containsS scanWords s = t at *
  have HI := Lib.hid hI
  clear hI
  go_enter Tryd.func14, Tryd.ntmps14
  go_wp2_with (go_at_call 28; refine HI.out.mono ?_; rintro e w' ⟨rfl, rfl⟩)
  go_ret
  exact ⟨rfl, rfl⟩

set_option maxHeartbeats 1000000 in
set_option maxRecDepth 100000 in
theorem sign_any (s : ByteArray) (w : World) (hT : ScanTabs w) :
    Calls Tryd.prog 16 #[.string s] w fun e w' => e = .returned (.bool (isSign s)) ∧ w' = w := by
  have hI : Calls Tryd.prog 28 #[.slice (some ⟨3, 0, none⟩) 23 23, .string s] w fun e w' => e = .returned (.bool (Lib.containsS scanSigns s)) ∧ w' = w :=
    Tryd.slices_Contains_string 3 0 23 23 scanSigns s w (by decide) (by decide) (fun j hj => by rw [Nat.zero_add]; exact hT.signs j hj)
  clear hT
  unfold isSign
  generalize Lib.containsS scanSigns s = t at *
  have HI := Lib.hid hI
  clear hI
  go_enter Tryd.func16, Tryd.ntmps16
  go_wp2_with (go_at_call 28; refine HI.out.mono ?_; rintro e w' ⟨rfl, rfl⟩)
  go_ret
  exact ⟨rfl, rfl⟩

set_option maxHeartbeats 2000000 in
set_option maxRecDepth 100000 in
theorem name_any (s : ByteArray) (w : World) (hT : ScanTabs w) (hs : s.size ≤ 9223372036854775807) :
    Calls Tryd.prog 18 #[.string s] w fun e w' => e = .returned (.bool (isName s)) ∧ Below w.heap.size w w' := by
  by_cases h0 : 0 < s.size
  · have hl := length_named s w hs
    have hle := lead_le isNamed s.data.toList
    have hlen : s.data.toList.length = s.size := by simp
    rw [hlen] at hle
    have hhead : (s.data.toList.head?.any fun c => isLetter (c.toNat : Int)) = isLetter ((s[0]'h0).toNat : Int) := by
      have : s.data.toList.head? = some (s[0]'h0) := by
        rw [List.head?_eq_getElem?, List.getElem?_eq_getElem (by rw [hlen]; exact h0)]
        rfl
      rw [this]; rfl
    have hdef : isName s = ((lead isNamed s.data.toList == s.size) && isLetter ((s[0]'h0).toNat : Int) && decide (s.size ≤ 12) && !isWord s) := by
      unfold isName
      rw [hhead]
      simp [h0]
    have HD := Lib.hid hdef
    clear hdef hhead hlen
    have hW : ∀ w', Below w.heap.size w w' → Calls Tryd.prog 14 #[.string s] w' fun e w'' => e = .returned (.bool (isWord s)) ∧ w'' = w' := fun w' hb => word_any s w' (hT.below hb)
    have HW := Lib.hid hW
    clear hW hT
    generalize lead isNamed s.data.toList = n at *
    have HL := Lib.hid hl
    clear hl
    have hne : (!s.toList.isEmpty) = true := by
      rw [ByteArray.toList_eq]
      cases hh : s.data.toList with
      | nil => have : s.size = 0 := by rw [← ByteArray.size_data, ← Array.length_toList, hh]; rfl
               omega
      | cons => rfl
    have h255 : (s[0]'h0).toNat < 256 := UInt8.toNat_lt _
    by_cases hn : n = s.size
    · have hn2 : ((n : Int) == (s.size : Int)) = true := by simp [hn]
      have HN := Lib.hid hn
      clear hn
      cases hlet : isLetter ((s[0]'h0).toNat : Int)
      · have HLt := Lib.hid hlet
        have hcl := fun w => letter_any ((s[0]'h0).toNat : Int) w
        rw [hlet] at hcl
        have HC := Lib.hid hcl
        clear hcl hlet
        go_enter Tryd.func18, Tryd.ntmps18
        go_wp2_with fail
        refine HL.out.mono ?_
        rintro e w1 ⟨rfl, hb⟩
        have HB := Lib.hid hb
        clear hb
        go_wp2_with fail
        refine (HC.out _).mono ?_
        rintro e w2 ⟨rfl, rfl⟩
        go_wp2_with fail
        go_ret
        exact ⟨ret_bool (by rw [HD.out, HLt.out]; simp), HB.out⟩
      · have HLt := Lib.hid hlet
        have hcl := fun w => letter_any ((s[0]'h0).toNat : Int) w
        rw [hlet] at hcl
        have HC := Lib.hid hcl
        clear hcl hlet
        by_cases h12 : s.size ≤ 12
        · go_enter Tryd.func18, Tryd.ntmps18
          go_wp2_with fail
          refine HL.out.mono ?_
          rintro e w1 ⟨rfl, hb⟩
          have HB := Lib.hid hb
          clear hb
          go_wp2_with fail
          refine (HC.out _).mono ?_
          rintro e w2 ⟨rfl, rfl⟩
          go_wp2_with fail
          refine (HW.out _ HB.out).mono ?_
          rintro e w2 ⟨rfl, rfl⟩
          go_wp2_with fail
          go_ret
          exact ⟨ret_bool (by rw [HD.out, HLt.out, HN.out]; simp [h12]), HB.out⟩
        · go_enter Tryd.func18, Tryd.ntmps18
          go_wp2_with fail
          refine HL.out.mono ?_
          rintro e w1 ⟨rfl, hb⟩
          have HB := Lib.hid hb
          clear hb
          go_wp2_with fail
          refine (HC.out _).mono ?_
          rintro e w2 ⟨rfl, rfl⟩
          go_wp2_with fail
          go_ret
          exact ⟨ret_bool (by rw [HD.out, HLt.out, HN.out]; simp [h12]), HB.out⟩
    · have hn2 : ((n : Int) == (s.size : Int)) = false := by simp; omega
      have hn3 : (n == s.size) = false := by simpa using hn
      have HN := Lib.hid hn3
      clear hn hn3
      go_enter Tryd.func18, Tryd.ntmps18
      go_wp2_with fail
      refine HL.out.mono ?_
      rintro e w1 ⟨rfl, hb⟩
      have HB := Lib.hid hb
      clear hb
      go_wp2_with fail
      go_ret
      exact ⟨ret_bool (by rw [HD.out, HN.out]; simp), HB.out⟩
  · have hz : s.size = 0 := by omega
    have hsz : s = ByteArray.empty := by simpa using hz
    subst hsz
    clear hT hz h0 hs
    have hd : isName ByteArray.empty = false := by decide
    rw [hd]
    go_enter Tryd.func18, Tryd.ntmps18
    go_wp2_with fail
    go_ret
    exact ⟨rfl, Below.refl _ _⟩
end Go.Proofs.YtjfoinikdifgmaaDoor
