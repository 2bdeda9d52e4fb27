/- The walk of scan.number, at a row of digits. -/
import Derived.Test.YtjfoinikdifgmaaDoorScan2
import Derived.Test.YtjfoinikdifgmaaDoorNum
import Derived.Lib.AppendIntMem
import Derived.WideLaws
import Derived.Lib.SmallJoins
namespace Go.Proofs.YtjfoinikdifgmaaDoor
open Go.RowKit

/-- What is laid of strconv. -/
structure StrTabs (w : World) : Prop where
  pow : Lib.TabIs Tryd.prog w "internal/strconv.uint64pow10" .u64 Lib.pow10Tab
  errR : ∃ te pe, w.cell? ⟨6, 0, none⟩ = some (.iface te pe)
theorem StrTabs.below {w w' : World} (h : StrTabs w) (hb : Below w.heap.size w w') : StrTabs w' where
  pow := Lib.tabBelow_of_tabIs h.pow w' hb
  errR := by
    obtain ⟨te, pe, hc⟩ := h.errR
    exact ⟨te, pe, cell_later hb hc⟩

def NumPost (l : List UInt8) (w : World) (e : Ending) (w' : World) : Prop :=
  (∃ v, e = .returned (.tuple #[.int .i64 v, .bool (numOk l)]) ∧ (numOk l = true → v = valOf l)) ∧ Below w.heap.size w w'

theorem below_bytesWorld {w w' : World} {T : Nat} (h : w' = w ∨ ∃ t, w' = Lib.bytesWorld w T t) : Below w.heap.size w w' := by
  rcases h with rfl | ⟨t, rfl⟩
  · exact Below.refl _ _
  · exact Go.Joins.below_bytesWorld _ _ _ _ (Nat.le_refl _)

set_option maxHeartbeats 2000000 in
set_option maxRecDepth 100000 in
theorem number_any (s : ByteArray) (w : World) (hd : allDigits s.data.toList) (hne : s.size ≠ 0) (hs : s.size ≤ 281474976710656) (hT : StrTabs w) :
    Calls Tryd.prog 51 #[.string s] w (NumPost s.data.toList w) := by
  have hlen : s.data.toList.length = s.size := by simp
  have hne2 : s.data.toList ≠ [] := by intro e; rw [e] at hlen; exact hne hlen.symm
  have hpi := parseInt_digits hd hne2
  by_cases hv : valOf s.data.toList < 9223372036854775808
  · rw [if_pos hv] at hpi
    have hP : Calls Tryd.prog 59 #[.string s, .int .i64 10, .int .i64 64] w fun e w' => e = .returned (.tuple #[.int .i64 (valOf s.data.toList : Int), .nilIface]) ∧ Below w.heap.size w w' :=
      (Tryd.strconv_ParseInt_10_at64_ok s (by omega) _ hpi w).mono fun e w' h => ⟨h.1, below_bytesWorld h.2⟩
    have HP := Lib.hid hP
    clear hP
    by_cases h18 : s.size ≤ 18
    · have hF : ∀ w', Below w.heap.size w w' → Calls Tryd.prog 60 #[.int .i64 (valOf s.data.toList : Int), .int .i64 10] w' fun e w'' => e = .returned (.string ⟨(Lib.itoa (valOf s.data.toList : Int)).toArray⟩) ∧ Below w'.heap.size w' w'' := fun w' hb =>
        (Tryd.strconv_FormatInt_10 (valOf s.data.toList : Int) (by omega) (by omega) w' (hT.below hb).pow).mono fun e w'' ⟨he, k, os, hw⟩ => ⟨he, by rw [hw]; exact Lib.below_grow _ _ (Nat.le_refl _) _ _⟩
      have hiff := itoa_val hd hne2 (by rw [hlen]; exact h18)
      have heq : ((⟨(Lib.itoa (valOf s.data.toList : Int)).toArray⟩ : ByteArray).toList == s.toList) = numOk s.data.toList := by
        rw [Bool.eq_iff_iff, ← hiff, beq_iff_eq, ByteArray.toList_eq, ByteArray.toList_eq]
      have HF := Lib.hid hF
      have HE := Lib.hid heq
      clear hF heq hiff hpi hT
      go_enter Tryd.func51, Tryd.ntmps51
      go_wp2_with fail
      refine HP.out.mono ?_
      rintro e w1 ⟨rfl, hb⟩
      have HB := Lib.hid hb
      clear hb
      go_wp2_with fail
      refine (HF.out _ HB.out).mono ?_
      rintro e w2 ⟨rfl, hb⟩
      have HB2 := Lib.hid (HB.out.trans (hb.mono HB.out.size))
      clear hb
      go_wp2_with fail
      go_ret2
      refine ⟨⟨(valOf s.data.toList : Int), ?_, fun _ => rfl⟩, HB2.out⟩
      rw [← HE.out]
      simp
    · have hno : numOk s.data.toList = false := by unfold numOk; rw [hlen]; simp [h18]
      have HN := Lib.hid hno
      clear hno hpi hT
      go_enter Tryd.func51, Tryd.ntmps51
      go_wp2_with fail
      refine HP.out.mono ?_
      rintro e w1 ⟨rfl, hb⟩
      have HB := Lib.hid hb
      clear hb
      go_wp2_with fail
      go_ret2
      refine ⟨⟨(valOf s.data.toList : Int), ?_, fun h => ?_⟩, HB.out⟩
      · rw [HN.out]; rfl
      · exact absurd h (by rw [HN.out]; decide)
  · rw [if_neg hv] at hpi
    obtain ⟨te, pe, hc⟩ := hT.errR
    have hP : Calls Tryd.prog 59 #[.string s, .int .i64 10, .int .i64 64] w fun e w' => ∃ N, e = .returned (.tuple #[.int .i64 (Lib.intSat 64 s.data.toList), .iface 89 (.pointer (some ⟨N, 0, none⟩))]) ∧ Below w.heap.size w w' :=
      (Tryd.strconv_ParseInt_10_at64_range s hs hpi _ w hc (.inr ⟨_, _, rfl⟩)).mono fun e w' ⟨N, he, _, _, hb⟩ => ⟨N, he, hb⟩
    have h18 : ¬ s.size ≤ 18 := fun h => by
      have := valOf_lt18 hd (by rw [hlen]; exact h)
      omega
    have hno : numOk s.data.toList = false := by unfold numOk; rw [hlen]; simp [h18]
    have HN := Lib.hid hno
    have HP := Lib.hid hP
    clear hP hno hpi hT hc
    go_enter Tryd.func51, Tryd.ntmps51
    go_wp2_with fail
    refine HP.out.mono ?_
    rintro e w1 ⟨N, rfl, hb⟩
    have HB := Lib.hid hb
    clear hb
    go_wp2_with fail
    go_ret2
    refine ⟨⟨Lib.intSat 64 s.data.toList, ?_, fun h => ?_⟩, HB.out⟩
    · rw [HN.out]; rfl
    · exact absurd h (by rw [HN.out]; decide)
end Go.Proofs.YtjfoinikdifgmaaDoor
