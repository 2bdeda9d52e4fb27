/- The walk of dispatcherref16.number (the same text as dispatcherref05.number). -/
import Derived.Test.YtgphigpbgiceiaaDoorPk36
import Derived.Test.YtgphigpbgiceiaaDoorDig
namespace Go.Proofs.YtgphigpbgiceiaaDoor
open Go.RowKit Go.Sort
set_option linter.unusedVariables false
set_option linter.unusedSimpArgs false

/-- What number tells: the number whose own text it is, or none. -/
def NumSaid (l : List UInt8) (n : Int) (b : Bool) : Prop := (-9223372036854775808 ≤ n ∧ n ≤ 9223372036854775807) ∧ (b = true → Lib.itoa n = l) ∧ (b = false → ∀ v, ¬ NumIs l v)
def Num16 (s : ByteArray) (w : World) (e : Ending) (w' : World) : Prop := ∃ (n : Int) (b : Bool), e = .returned (.tuple #[.int .i64 n, .bool b]) ∧ NumSaid s.data.toList n b ∧ Below w.heap.size w w'

set_option maxHeartbeats 4000000 in
set_option maxRecDepth 100000 in
theorem number16p_any (s : ByteArray) (hs : s.size ≤ 100000) (w : World) :
    Calls Tryd.prog 39 #[.string s] w fun e w' => Num16 s w e w' := by
  have HLEN := Lib.hid (show s.data.toList.length = s.size by simp)
  rcases Nat.eq_zero_or_pos s.size with h0 | h0
  · have HNO := Lib.hid (show ∀ v, ¬ NumIs s.data.toList v from fun v h => by
      have h1 := (numIs_parts h).2.1
      have h2 : s.data.toList = [] := List.eq_nil_of_length_eq_zero (by rw [HLEN.out]; exact h0)
      rw [h2] at h1
      simp [digitsOf] at h1)
    go_enter Tryd.func39, Tryd.ntmps39
    go_wp2_with fail
    go_ret2
    exact ⟨0, false, rfl, ⟨by decide, (fun h => by cases h), fun _ => HNO.out⟩, Below.refl _ _⟩
  · have hl0 : 0 < s.data.toList.length := by rw [HLEN.out]; exact h0
    have hhd : s.data.toList.head? = some (s[0]'h0) := by
      rw [List.head?_eq_getElem?, List.getElem?_eq_getElem hl0]
      rfl
    by_cases hm : s[0]'h0 = 45
    · have ht : (((s[0]'h0).toNat : Int) == 45) = true := by rw [hm]; rfl
      have hd : (s.extract 1 s.size).data.toList = digitsOf s.data.toList := by
        unfold digitsOf
        rw [hhd, hm, if_pos rfl, Lib.extract_data, List.take_of_length_le]
        rw [List.length_drop, HLEN.out]
        omega
      have hds : (s.extract 1 s.size).size = s.size - 1 := by rw [ByteArray.size_extract]; omega
      clear hm hhd hl0
      go_enter Tryd.func39, Tryd.ntmps39
      go_upto_region 4 with fail
      generalize s.extract 1 s.size = D at *
      have HD := Lib.hid hd
      clear hd ht
      have hne : (((D.size : Int)) == (s.size : Int)) = false := by rw [beq_eq_false_iff_ne]; omega
      have HSGN := Lib.hid (show ∀ z : Int, z = numF (digitsOf s.data.toList) → z = (if (digitsOf s.data.toList).length = s.data.toList.length then IntKind.i64.wrap (-(numF (digitsOf s.data.toList))) else numF (digitsOf s.data.toList)) from fun z h => by
        rw [if_neg, h]
        rw [← HD.out, ← Lib.size_eq, HLEN.out]
        omega)
      by_cases hlen : D.size < 1 ∨ 19 < D.size
      · have HNO := Lib.hid (show ∀ v, ¬ NumIs s.data.toList v from fun v h => by
          obtain ⟨h1, h2, _⟩ := numIs_parts h
          rw [← HD.out, ← Lib.size_eq] at h1 h2
          omega)
        rcases hlen with hlen | hlen
        all_goals
          go_wp2_with fail
          go_ret2
          exact ⟨0, false, rfl, ⟨by decide, (fun h => by cases h), fun _ => HNO.out⟩, Below.refl _ _⟩
      · have hl1 : 1 ≤ D.size ∧ D.size ≤ 19 := by omega
        clear hlen
        have HAT := Lib.hid (fun (k : Nat) (h1 : k < D.data.toList.length) (h2 : k < D.size) => (show D.data.toList[k] = D[k] from rfl))
        have HLD := Lib.hid (show D.data.toList.length = D.size by simp)
        go_wp2_with fail
        go_loopg [5, 6] (D.size + 1) (fun g n i wx => ∃ (k : Nat) (z : Int), n = .int .i64 z ∧ i = .int .i64 k ∧ k ≤ D.size ∧ D.size - k < g ∧ wx = w ∧ Hid (z = numF (D.data.toList.take k)))
        case atStart => exact ⟨0, 0, rfl, rfl, by omega, by omega, rfl, rfl⟩
        case round =>
          obtain ⟨k, z, rfl, rfl, hk, hg, rfl, HZ⟩ := hrel
          obtain ⟨g, rfl⟩ : ∃ g, gk = g + 1 := ⟨gk - 1, by omega⟩
          by_cases hlt : k < D.size
          · have hll : k < D.data.toList.length := by rw [HLD.out]; exact hlt
            have hb : (D[k]'hlt).toNat < 256 := UInt8.toNat_lt _
            by_cases hdg : 48 ≤ (D[k]'hlt).toNat ∧ (D[k]'hlt).toNat ≤ 57
            · obtain ⟨z2, hz2⟩ : ∃ z2, wrap64 (wrap64 (10 * z) - (((D[k]'hlt).toNat : Int) - 48)) = z2 := ⟨_, rfl⟩
              have HST := Lib.hid (show z2 = numF (D.data.toList.take (k + 1)) by
                rw [List.take_succ_eq_append_getElem hll, numF_app, ← HZ.out, HAT.out k hll hlt, IntWalk.i64_left, IntWalk.i64_left]
                exact hz2.symm)
              have hw1 : IntKind.u8.wrap (((D[k]'hlt).toNat : Int) - 48) = ((D[k]'hlt).toNat : Int) - 48 := IntWalk.u8_in _ (by omega)
              have hw2 : IntKind.i64.wrap (((D[k]'hlt).toNat : Int) - 48) = ((D[k]'hlt).toNat : Int) - 48 := IntWalk.i64_in _ (by omega)
              have hr1 := hdg.1
              have hr2 := hdg.2
              clear hdg hll HZ
              go_wp2_with fail
              go_roundg g
              case measure => omega
              case rel => exact ⟨k + 1, z2, by first | rfl | rw [hz2], by go_num, by omega, by omega, rfl, HST⟩
            · have HNO := Lib.hid (show ∀ v, ¬ NumIs s.data.toList v from fun v h => by
                have h1 := (numIs_parts h).2.2.1
                rw [← HD.out] at h1
                have h2 := h1 _ (List.getElem_mem hll)
                rw [HAT.out k hll hlt] at h2
                omega)
              have hor : (D[k]'hlt).toNat < 48 ∨ 57 < (D[k]'hlt).toNat := by omega
              clear hdg
              rcases hor with hr | hr
              all_goals
                go_wp2_with fail
                go_ret2
                exact ⟨0, false, rfl, ⟨by decide, (fun h => by cases h), fun _ => HNO.out⟩, Below.refl _ _⟩
          · have hke : k = D.size := by omega
            subst hke
            have HZ2 := Lib.hid (HSGN.out z (by rw [HZ.out, ← HD.out, List.take_of_length_le (by rw [HLD.out]; exact Nat.le_refl _)]))
            have hrz := numF_range (D.data.toList.take D.size)
            rw [← HZ.out] at hrz
            clear HSGN HZ
            have hr2 := hrz
            have HNB := Lib.hid (number_any z hr2.1 hr2.2 wr)
            have hsl : (Lib.itoa z).length ≤ 21 := Lib.itoa_length_le z hr2.1 hr2.2
            clear hrz hlt
            skip
            go_wp2_with fail
            refine HNB.out.mono ?_
            rintro e w2 ⟨rfl, hb2⟩
            have HB2 := Lib.hid hb2
            clear hb2 HNB
            cases dt : (Lib.itoa z == s.toList)
            case false =>
              have HNO := Lib.hid (show ∀ v, ¬ NumIs s.data.toList v from fun v h => by
                have h1 := (numIs_parts h).2.2.2
                rw [← HZ2.out] at h1
                subst h1
                rw [ByteArray.toList_eq, h.2] at dt
                simp at dt)
              go_wp2_with fail
              go_ret2
              exact ⟨z, false, rfl, ⟨hr2, (fun h => by cases h), fun _ => HNO.out⟩, HB2.out⟩
            case true =>
              have HEQ := Lib.hid (show Lib.itoa z = s.data.toList by
                have h := beq_iff_eq.1 dt
                rw [ByteArray.toList_eq] at h
                exact h)
              go_wp2_with fail
              go_ret2
              exact ⟨z, true, rfl, ⟨hr2, fun _ => HEQ.out, (fun h => by cases h)⟩, HB2.out⟩
    · have ht : (((s[0]'h0).toNat : Int) == 45) = false := by
        rw [beq_eq_false_iff_ne]
        intro h
        exact hm (UInt8.toNat_inj.1 (by have e : (45 : UInt8).toNat = 45 := rfl; omega))
      have hd : s.data.toList = digitsOf s.data.toList := by
        unfold digitsOf
        rw [hhd, if_neg]
        intro h
        injection h with h
        exact hm h
      clear hm hhd hl0
      go_enter Tryd.func39, Tryd.ntmps39
      go_upto_region 4 with fail
      have HD := Lib.hid hd
      clear hd ht
      have HSGN := Lib.hid (show ∀ z : Int, z = numF (digitsOf s.data.toList) → IntKind.i64.wrap (-z) = (if (digitsOf s.data.toList).length = s.data.toList.length then IntKind.i64.wrap (-(numF (digitsOf s.data.toList))) else numF (digitsOf s.data.toList)) from fun z h => by
        rw [if_pos, h]
        rw [← HD.out])
      by_cases hlen : s.size < 1 ∨ 19 < s.size
      · have HNO := Lib.hid (show ∀ v, ¬ NumIs s.data.toList v from fun v h => by
          obtain ⟨h1, h2, _⟩ := numIs_parts h
          rw [← HD.out, ← Lib.size_eq] at h1 h2
          omega)
        have hlen := hlen.resolve_left (by omega)
        all_goals
          go_wp2_with fail
          go_ret2
          exact ⟨0, false, rfl, ⟨by decide, (fun h => by cases h), fun _ => HNO.out⟩, Below.refl _ _⟩
      · have hl1 : 1 ≤ s.size ∧ s.size ≤ 19 := by omega
        clear hlen
        have HAT := Lib.hid (fun (k : Nat) (h1 : k < s.data.toList.length) (h2 : k < s.size) => (show s.data.toList[k] = s[k] from rfl))
        have HLD := Lib.hid (show s.data.toList.length = s.size by simp)
        go_wp2_with fail
        go_loopg [5, 6] (s.size + 1) (fun g n i wx => ∃ (k : Nat) (z : Int), n = .int .i64 z ∧ i = .int .i64 k ∧ k ≤ s.size ∧ s.size - k < g ∧ wx = w ∧ Hid (z = numF (s.data.toList.take k)))
        case atStart => exact ⟨0, 0, rfl, rfl, by omega, by omega, rfl, rfl⟩
        case round =>
          obtain ⟨k, z, rfl, rfl, hk, hg, rfl, HZ⟩ := hrel
          obtain ⟨g, rfl⟩ : ∃ g, gk = g + 1 := ⟨gk - 1, by omega⟩
          by_cases hlt : k < s.size
          · have hll : k < s.data.toList.length := by rw [HLD.out]; exact hlt
            have hb : (s[k]'hlt).toNat < 256 := UInt8.toNat_lt _
            by_cases hdg : 48 ≤ (s[k]'hlt).toNat ∧ (s[k]'hlt).toNat ≤ 57
            · obtain ⟨z2, hz2⟩ : ∃ z2, wrap64 (wrap64 (10 * z) - (((s[k]'hlt).toNat : Int) - 48)) = z2 := ⟨_, rfl⟩
              have HST := Lib.hid (show z2 = numF (s.data.toList.take (k + 1)) by
                rw [List.take_succ_eq_append_getElem hll, numF_app, ← HZ.out, HAT.out k hll hlt, IntWalk.i64_left, IntWalk.i64_left]
                exact hz2.symm)
              have hw1 : IntKind.u8.wrap (((s[k]'hlt).toNat : Int) - 48) = ((s[k]'hlt).toNat : Int) - 48 := IntWalk.u8_in _ (by omega)
              have hw2 : IntKind.i64.wrap (((s[k]'hlt).toNat : Int) - 48) = ((s[k]'hlt).toNat : Int) - 48 := IntWalk.i64_in _ (by omega)
              have hr1 := hdg.1
              have hr2 := hdg.2
              clear hdg hll HZ
              go_wp2_with fail
              go_roundg g
              case measure => omega
              case rel => exact ⟨k + 1, z2, by first | rfl | rw [hz2], by go_num, by omega, by omega, rfl, HST⟩
            · have HNO := Lib.hid (show ∀ v, ¬ NumIs s.data.toList v from fun v h => by
                have h1 := (numIs_parts h).2.2.1
                rw [← HD.out] at h1
                have h2 := h1 _ (List.getElem_mem hll)
                rw [HAT.out k hll hlt] at h2
                omega)
              have hor : (s[k]'hlt).toNat < 48 ∨ 57 < (s[k]'hlt).toNat := by omega
              clear hdg
              rcases hor with hr | hr
              all_goals
                go_wp2_with fail
                go_ret2
                exact ⟨0, false, rfl, ⟨by decide, (fun h => by cases h), fun _ => HNO.out⟩, Below.refl _ _⟩
          · have hke : k = s.size := by omega
            subst hke
            have HZ2 := Lib.hid (HSGN.out z (by rw [HZ.out, ← HD.out, List.take_of_length_le (by rw [HLD.out]; exact Nat.le_refl _)]))
            have hrz := numF_range (s.data.toList.take s.size)
            rw [← HZ.out] at hrz
            clear HSGN HZ
            obtain ⟨z2, hz2⟩ : ∃ z2, wrap64 (-z) = z2 := ⟨_, rfl⟩
            rw [IntWalk.i64_left, hz2] at HZ2
            have hr2 : -9223372036854775808 ≤ z2 ∧ z2 ≤ 9223372036854775807 := by
              rw [← hz2]
              rw [← IntWalk.i64_left, IntKind.wrap_i64]
              omega
            have HNB := Lib.hid (number_any z2 hr2.1 hr2.2 wr)
            have hsl : (Lib.itoa z2).length ≤ 21 := Lib.itoa_length_le z2 hr2.1 hr2.2
            clear hrz hlt
            skip
            go_wp2_with fail
            refine HNB.out.mono ?_
            rintro e w2 ⟨rfl, hb2⟩
            have HB2 := Lib.hid hb2
            clear hb2 HNB
            cases dt : (Lib.itoa z2 == s.toList)
            case false =>
              have HNO := Lib.hid (show ∀ v, ¬ NumIs s.data.toList v from fun v h => by
                have h1 := (numIs_parts h).2.2.2
                rw [← HZ2.out] at h1
                subst h1
                rw [ByteArray.toList_eq, h.2] at dt
                simp at dt)
              go_wp2_with fail
              go_ret2
              exact ⟨z2, false, rfl, ⟨hr2, (fun h => by cases h), fun _ => HNO.out⟩, HB2.out⟩
            case true =>
              have HEQ := Lib.hid (show Lib.itoa z2 = s.data.toList by
                have h := beq_iff_eq.1 dt
                rw [ByteArray.toList_eq] at h
                exact h)
              go_wp2_with fail
              go_ret2
              exact ⟨z2, true, rfl, ⟨hr2, fun _ => HEQ.out, (fun h => by cases h)⟩, HB2.out⟩
end Go.Proofs.YtgphigpbgiceiaaDoor
