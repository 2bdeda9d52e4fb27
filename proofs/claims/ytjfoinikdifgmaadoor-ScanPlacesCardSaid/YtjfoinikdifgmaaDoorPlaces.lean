/- The walks of offset, gap. -/
import Derived.Test.YtjfoinikdifgmaaDoorPlacesP
namespace Go.Proofs.YtjfoinikdifgmaaDoor
open Go.RowKit
set_option linter.unusedVariables false
set_option linter.unusedSimpArgs false

theorem offF_zero (l : List UInt8) : offF l 0 = (0, 0) := by cases l <;> rfl
set_option maxHeartbeats 2000000 in
set_option maxRecDepth 100000 in
theorem offset_any (A : Option Addr) (c : Nat) (l : List UInt8) (line col : Int) (w : World) (hR : ByteRow w A l) (hl : l.length ≤ 20000) (h1 : 1 ≤ line) (h2 : line ≤ 100000) (h3 : -100000 ≤ col) (h4 : col ≤ 100000) :
    Calls Tryd.prog 24 #[.slice A l.length c, .int .i64 line, .int .i64 col] w fun e w' => e = .returned (.int .i64 (offOf l line col)) ∧ w' = w := by
  obtain ⟨r, hr⟩ : ∃ r, offOf l line col = r := ⟨_, rfl⟩
  rw [hr]
  have HRES := Lib.hid hr
  have HR := Lib.hid hR
  clear hr hR
  go_enter Tryd.func24, Tryd.ntmps24
  go_wp2_with fail
  go_loopg [1, 7] (l.length + 1) (fun g x i wx => ∃ (k : Nat) (z : Int), x = .int .i64 z ∧ i = .int .i64 k ∧ 1 ≤ z ∧ z ≤ 100000 ∧ k ≤ l.length ∧ l.length - k < g ∧ wx = w ∧ Hid (offF l (line - 1).toNat = ((offF (l.drop k) (z - 1).toNat).1 + k, (offF (l.drop k) (z - 1).toNat).2)))
  case atStart => exact ⟨0, line, rfl, rfl, h1, h2, by omega, by omega, rfl, by unfold Hid; simp⟩
  case round =>
    obtain ⟨k, z, rfl, rfl, hz1, hz2, hk, hg, rfl, hoff⟩ := hrel
    obtain ⟨g, rfl⟩ : ∃ g, gk = g + 1 := ⟨gk - 1, by omega⟩
    by_cases hz : z ≤ 1
    · obtain rfl : z = 1 := by omega
      have ho : offF l (line - 1).toNat = (k, 0) := by
        rw [hoff.out]
        have e : ((1 : Int) - 1).toNat = 0 := rfl
        rw [e, offF_zero]
        simp
      by_cases hc1 : col < 1
      · have hr : r = -1 := by
          rw [← HRES.out]; unfold offOf; rw [if_pos (.inr (.inl hc1))]
        have HRR := Lib.hid hr
        clear hr ho hoff h1 h2
        go_wp2_with fail
        go_ret
        exact ⟨ret_int HRR.out.symm, rfl⟩
      · by_cases hc2 : (l.length : Int) - k + 1 < col
        · have hr : r = -1 := by
            rw [← HRES.out]; unfold offOf; rw [ho, if_pos (.inr (.inr hc2))]
          have HRR := Lib.hid hr
          clear hr ho hoff h1 h2
          go_wp2_with fail
          go_ret
          exact ⟨ret_int HRR.out.symm, rfl⟩
        · have hr : r = k + col - 1 := by
            rw [← HRES.out]; unfold offOf; rw [ho, if_neg]
            rintro (h | h | h)
            · exact h rfl
            · exact hc1 h
            · exact hc2 h
          have HRR := Lib.hid hr
          clear hr ho hoff h1 h2
          go_wp2_with fail
          go_ret
          exact ⟨ret_int HRR.out.symm, rfl⟩
    · by_cases hlt : k < l.length
      · obtain ⟨b0, o, rfl, hblt, hcell⟩ := HR.out k hlt
        obtain ⟨m, hm⟩ : ∃ m : Nat, z = m + 2 := ⟨(z - 2).toNat, by omega⟩
        have ho := hoff.out
        have e : (z - 1).toNat = m + 1 := by omega
        rw [e, List.drop_eq_getElem_cons hlt] at ho
        simp only [offF] at ho
        have h255 : ((l[k].toNat : Nat) : Int) < 256 := by have := UInt8.toNat_lt l[k]; omega
        have h0 : 0 ≤ ((l[k].toNat : Nat) : Int) := by omega
        by_cases h10 : l[k].toNat = 10
        · rw [if_pos h10] at ho
          have t10 : (((l[k].toNat : Nat) : Int) == 10) = true := by simp; omega
          have HO := Lib.hid ho
          have HM := Lib.hid hm
          clear ho hoff h10 h1 h2 e hm
          generalize ((l[k].toNat : Nat) : Int) = ch at *
          go_wp2_with fail
          go_roundg g
          case measure => omega
          case rel =>
            refine ⟨k + 1, z - 1, rfl, by go_num, by omega, by omega, by omega, by omega, rfl, ?_⟩
            have e2 : (z - 1 - 1).toNat = m := by have := HM.out; omega
            unfold Hid
            rw [e2, HO.out]
            simp only [Prod.mk.injEq, and_true]
            omega
        · rw [if_neg h10] at ho
          have t10 : (((l[k].toNat : Nat) : Int) == 10) = false := by simp; omega
          have HO := Lib.hid ho
          have HM := Lib.hid hm
          clear ho hoff h10 h1 h2 e hm
          generalize ((l[k].toNat : Nat) : Int) = ch at *
          go_wp2_with fail
          go_roundg g
          case measure => omega
          case rel =>
            refine ⟨k + 1, z, rfl, by go_num, by omega, by omega, by omega, by omega, rfl, ?_⟩
            have e2 : (z - 1).toNat = m + 1 := by have := HM.out; omega
            unfold Hid
            rw [e2, HO.out]
            simp only [Prod.mk.injEq, and_true]
            omega
      · have hkl : k = l.length := by omega
        have hr : r = -1 := by
          have ho := hoff.out
          obtain ⟨m, hm⟩ : ∃ m : Nat, (z - 1).toNat = m + 1 := ⟨(z - 2).toNat, by omega⟩
          rw [hm, hkl, List.drop_length] at ho
          rw [← HRES.out]; unfold offOf; rw [ho, if_pos (.inl (by simp [offF]))]
        have HRR := Lib.hid hr
        have hz1 : (z != 1) = true := by simp; omega
        have hkk : ¬ k < l.length := hlt
        clear hr hoff h1 h2 hkl
        go_wp2_with fail
        go_ret
        exact ⟨ret_int HRR.out.symm, rfl⟩

set_option maxHeartbeats 2000000 in
set_option maxRecDepth 100000 in
theorem gap_any (A : Option Addr) (c : Nat) (l : List UInt8) (w : World) (hR : ByteRow w A l) (hl : l.length ≤ 20000) :
    Calls Tryd.prog 25 #[.slice A l.length c] w fun e w' => e = .returned (.bool (gapOf l)) ∧ w' = w := by
  obtain ⟨r, hr⟩ : ∃ r, gapOf l = r := ⟨_, rfl⟩
  rw [hr]
  have HRES := Lib.hid hr
  have HR := Lib.hid hR
  clear hr hR
  go_enter Tryd.func25, Tryd.ntmps25
  go_wp2_with fail
  go_loopg [3, 4] (l.length + 1) (fun g x i wx => ∃ (k : Nat) (f : Bool), x = .bool f ∧ i = .int .i64 k ∧ k ≤ l.length ∧ l.length - k < g ∧ wx = w ∧ Hid (gapR false l = gapR f (l.drop k)))
  case atStart => exact ⟨0, false, rfl, rfl, by omega, by omega, rfl, by unfold Hid; simp⟩
  case round =>
    obtain ⟨k, f, rfl, rfl, hk, hg, rfl, hgap⟩ := hrel
    obtain ⟨g, rfl⟩ : ∃ g, gk = g + 1 := ⟨gk - 1, by omega⟩
    by_cases hlt : k < l.length
    · obtain ⟨b0, o, rfl, hblt, hcell⟩ := HR.out k hlt
      have ho := hgap.out
      rw [List.drop_eq_getElem_cons hlt] at ho
      simp only [gapR] at ho
      have h255 : ((l[k].toNat : Nat) : Int) < 256 := by have := UInt8.toNat_lt l[k]; omega
      have h0 : 0 ≤ ((l[k].toNat : Nat) : Int) := by omega
      by_cases h10 : l[k].toNat = 10
      · rw [if_pos h10] at ho
        have t10 : (((l[k].toNat : Nat) : Int) == 10) = true := by simp; omega
        have HO := Lib.hid ho
        clear ho hgap h10
        generalize ((l[k].toNat : Nat) : Int) = ch at *
        go_wp2_with fail
        go_roundg g
        case measure => omega
        case rel => exact ⟨k + 1, false, rfl, by go_num, by omega, by omega, rfl, HO⟩
      · rw [if_neg h10] at ho
        have t10 : (((l[k].toNat : Nat) : Int) == 10) = false := by simp; omega
        by_cases h35 : l[k].toNat = 35
        · rw [if_pos h35] at ho
          have t35 : (((l[k].toNat : Nat) : Int) == 35) = true := by simp; omega
          have HO := Lib.hid ho
          clear ho hgap h10 h35
          generalize ((l[k].toNat : Nat) : Int) = ch at *
          go_wp2_with fail
          go_roundg g
          case measure => omega
          case rel => exact ⟨k + 1, true, rfl, by go_num, by omega, by omega, rfl, HO⟩
        · rw [if_neg h35] at ho
          have t35 : (((l[k].toNat : Nat) : Int) == 35) = false := by simp; omega
          cases f with
          | true =>
            simp only [Bool.not_true, Bool.false_and, Bool.false_eq_true, if_false] at ho
            have HO := Lib.hid ho
            clear ho hgap h10 h35
            generalize ((l[k].toNat : Nat) : Int) = ch at *
            go_wp2_with fail
            go_roundg g
            case measure => omega
            case rel => exact ⟨k + 1, true, rfl, by go_num, by omega, by omega, rfl, HO⟩
          | false =>
            have e32 : (l[k].toNat != 32) = (((l[k].toNat : Nat) : Int) != 32) := by rw [Bool.eq_iff_iff]; simp; omega
            have e9 : (l[k].toNat != 9) = (((l[k].toNat : Nat) : Int) != 9) := by rw [Bool.eq_iff_iff]; simp; omega
            have e13 : (l[k].toNat != 13) = (((l[k].toNat : Nat) : Int) != 13) := by rw [Bool.eq_iff_iff]; simp; omega
            rw [e32, e9, e13] at ho
            clear h10 h35 e32 e9 e13 hgap
            generalize ((l[k].toNat : Nat) : Int) = ch at *
            have HG := Lib.hid ho
            clear ho
            cases t32 : (ch != 32)
            · have HO : Hid (gapR false l = gapR false (l.drop (k + 1))) := by have := HG.out; unfold Hid; simpa [t32] using this
              clear HG
              go_wp2_with fail
              go_roundg g
              case measure => omega
              case rel => exact ⟨k + 1, false, rfl, by go_num, by omega, by omega, rfl, HO⟩
            · cases t9 : (ch != 9)
              · have HO : Hid (gapR false l = gapR false (l.drop (k + 1))) := by have := HG.out; unfold Hid; simpa [t9] using this
                clear HG
                go_wp2_with fail
                go_roundg g
                case measure => omega
                case rel => exact ⟨k + 1, false, rfl, by go_num, by omega, by omega, rfl, HO⟩
              · cases t13 : (ch != 13)
                · have HO : Hid (gapR false l = gapR false (l.drop (k + 1))) := by have := HG.out; unfold Hid; simpa [t13] using this
                  clear HG
                  go_wp2_with fail
                  go_roundg g
                  case measure => omega
                  case rel => exact ⟨k + 1, false, rfl, by go_num, by omega, by omega, rfl, HO⟩
                · have HO : Hid (r = false) := by
                    have := HG.out
                    rw [t32, t9, t13] at this
                    unfold Hid
                    rw [← HRES.out]
                    unfold gapOf
                    rw [this]
                    rfl
                  clear HG
                  go_wp2_with fail
                  go_ret
                  exact ⟨ret_bool HO.out.symm, rfl⟩
    · have hkl : k = l.length := by omega
      have hr : r = true := by
        rw [← HRES.out]; unfold gapOf; rw [hgap.out, hkl, List.drop_length]; rfl
      have HRR := Lib.hid hr
      clear hr hgap hkl
      go_wp2_with fail
      go_ret
      exact ⟨ret_bool HRR.out.symm, rfl⟩
end Go.Proofs.YtjfoinikdifgmaaDoor
