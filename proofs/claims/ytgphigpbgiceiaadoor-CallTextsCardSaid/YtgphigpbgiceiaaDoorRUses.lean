/- The walks of dispatcherref16.uses, has. -/
import Derived.Test.YtgphigpbgiceiaaDoorCl
namespace Go.Proofs.YtgphigpbgiceiaaDoor
open Go.RowKit Go.Sort
set_option linter.unusedVariables false
set_option linter.unusedSimpArgs false

/-- What a kind uses, by letters. -/
def usesS (k : Int) : List UInt8 :=
  if k = 1 ∨ k = 2 ∨ k = 3 ∨ k = 4 ∨ k = 5 then [99, 112, 116, 118, 115]
  else if k = 6 ∨ k = 7 ∨ k = 13 ∨ k = 14 then [99, 112, 116]
  else if k = 8 ∨ k = 9 ∨ k = 10 ∨ k = 11 ∨ k = 12 then [108]
  else if k = 15 ∨ k = 20 ∨ k = 22 then [99]
  else if k = 16 ∨ k = 19 then [99, 114, 118]
  else if k = 17 then [99, 114, 118, 111]
  else if k = 18 then [99, 118, 111]
  else if k = 21 then [99, 107]
  else []
theorem usesS_len (k : Int) : (usesS k).length ≤ 5 := by
  unfold usesS
  repeat (split; · simp)
  simp
set_option maxHeartbeats 4000000 in
set_option maxRecDepth 100000 in
theorem ruses_any (k : Int) (w : World) : Calls Tryd.prog 22 #[.int .u8 k] w fun e w' => e = .returned (.string ⟨(usesS k).toArray⟩) ∧ w' = w := by
  by_cases h0 : k = 1 ∨ k = 2 ∨ k = 3 ∨ k = 4 ∨ k = 5
  case pos =>
    have HU := Lib.hid (show usesS k = [99, 112, 116, 118, 115] by unfold usesS; rw [if_pos h0])
    skip
    rcases h0 with rfl | rfl | rfl | rfl | rfl
    all_goals
      go_enter Tryd.func22, Tryd.ntmps22
      go_wp2_with fail
      go_ret
      exact ⟨ret_str (by rw [HU.out]), rfl⟩
  by_cases h1 : k = 6 ∨ k = 7 ∨ k = 13 ∨ k = 14
  case pos =>
    have HU := Lib.hid (show usesS k = [99, 112, 116] by unfold usesS; rw [if_neg h0, if_pos h1])
    clear h0
    rcases h1 with rfl | rfl | rfl | rfl
    all_goals
      go_enter Tryd.func22, Tryd.ntmps22
      go_wp2_with fail
      go_ret
      exact ⟨ret_str (by rw [HU.out]), rfl⟩
  by_cases h2 : k = 8 ∨ k = 9 ∨ k = 10 ∨ k = 11 ∨ k = 12
  case pos =>
    have HU := Lib.hid (show usesS k = [108] by unfold usesS; rw [if_neg h0, if_neg h1, if_pos h2])
    clear h0 h1
    rcases h2 with rfl | rfl | rfl | rfl | rfl
    all_goals
      go_enter Tryd.func22, Tryd.ntmps22
      go_wp2_with fail
      go_ret
      exact ⟨ret_str (by rw [HU.out]), rfl⟩
  by_cases h3 : k = 15 ∨ k = 20 ∨ k = 22
  case pos =>
    have HU := Lib.hid (show usesS k = [99] by unfold usesS; rw [if_neg h0, if_neg h1, if_neg h2, if_pos h3])
    clear h0 h1 h2
    rcases h3 with rfl | rfl | rfl
    all_goals
      go_enter Tryd.func22, Tryd.ntmps22
      go_wp2_with fail
      go_ret
      exact ⟨ret_str (by rw [HU.out]), rfl⟩
  by_cases h4 : k = 16 ∨ k = 19
  case pos =>
    have HU := Lib.hid (show usesS k = [99, 114, 118] by unfold usesS; rw [if_neg h0, if_neg h1, if_neg h2, if_neg h3, if_pos h4])
    clear h0 h1 h2 h3
    rcases h4 with rfl | rfl
    all_goals
      go_enter Tryd.func22, Tryd.ntmps22
      go_wp2_with fail
      go_ret
      exact ⟨ret_str (by rw [HU.out]), rfl⟩
  by_cases h5 : k = 17
  case pos =>
    have HU := Lib.hid (show usesS k = [99, 114, 118, 111] by unfold usesS; rw [if_neg h0, if_neg h1, if_neg h2, if_neg h3, if_neg h4, if_pos h5])
    clear h0 h1 h2 h3 h4
    subst h5
    go_enter Tryd.func22, Tryd.ntmps22
    go_wp2_with fail
    go_ret
    exact ⟨ret_str (by rw [HU.out]), rfl⟩
  by_cases h6 : k = 18
  case pos =>
    have HU := Lib.hid (show usesS k = [99, 118, 111] by unfold usesS; rw [if_neg h0, if_neg h1, if_neg h2, if_neg h3, if_neg h4, if_neg h5, if_pos h6])
    clear h0 h1 h2 h3 h4 h5
    subst h6
    go_enter Tryd.func22, Tryd.ntmps22
    go_wp2_with fail
    go_ret
    exact ⟨ret_str (by rw [HU.out]), rfl⟩
  by_cases h7 : k = 21
  case pos =>
    have HU := Lib.hid (show usesS k = [99, 107] by unfold usesS; rw [if_neg h0, if_neg h1, if_neg h2, if_neg h3, if_neg h4, if_neg h5, if_neg h6, if_pos h7])
    clear h0 h1 h2 h3 h4 h5 h6
    subst h7
    go_enter Tryd.func22, Tryd.ntmps22
    go_wp2_with fail
    go_ret
    exact ⟨ret_str (by rw [HU.out]), rfl⟩
  have HU := Lib.hid (show usesS k = [] by unfold usesS; rw [if_neg h0, if_neg h1, if_neg h2, if_neg h3, if_neg h4, if_neg h5, if_neg h6, if_neg h7])
  have z : ∀ m : Int, k ≠ m → (k == m) = false := fun m hm => beq_eq_false_iff_ne.2 hm
  have z1 := z 1 (by omega)
  have z2 := z 2 (by omega)
  have z3 := z 3 (by omega)
  have z4 := z 4 (by omega)
  have z5 := z 5 (by omega)
  have z6 := z 6 (by omega)
  have z7 := z 7 (by omega)
  have z8 := z 8 (by omega)
  have z9 := z 9 (by omega)
  have z10 := z 10 (by omega)
  have z11 := z 11 (by omega)
  have z12 := z 12 (by omega)
  have z13 := z 13 (by omega)
  have z14 := z 14 (by omega)
  have z15 := z 15 (by omega)
  have z16 := z 16 (by omega)
  have z17 := z 17 (by omega)
  have z18 := z 18 (by omega)
  have z19 := z 19 (by omega)
  have z20 := z 20 (by omega)
  have z21 := z 21 (by omega)
  have z22 := z 22 (by omega)
  clear z h0 h1 h2 h3 h4 h5 h6 h7
  go_enter Tryd.func22, Tryd.ntmps22
  go_wp2_with fail
  go_ret
  exact ⟨ret_str (by rw [HU.out]), rfl⟩
set_option maxHeartbeats 4000000 in
set_option maxRecDepth 100000 in
theorem rhas_any (k : Int) (c : UInt8) (w : World) : Calls Tryd.prog 24 #[.int .u8 k, .int .u8 (c.toNat : Int)] w fun e w' => e = .returned (.bool ((usesS k).contains c)) ∧ w' = w := by
  have HU := Lib.hid (ruses_any k w)
  obtain ⟨s, hs⟩ : ∃ s : ByteArray, (⟨(usesS k).toArray⟩ : ByteArray) = s := ⟨_, rfl⟩
  rw [hs] at HU
  have hl : s.data.toList = usesS k := by rw [← hs]
  have hz : s.size ≤ 5 := by
    rw [← hs]
    exact usesS_len k
  have HL := Lib.hid hl
  have HLEN := Lib.hid (show s.data.toList.length = s.size by simp)
  have HAT := Lib.hid (fun (j : Nat) (h1 : j < s.data.toList.length) (h2 : j < s.size) => (show s.data.toList[j] = s[j] from rfl))
  clear hl hs
  go_enter Tryd.func24, Tryd.ntmps24
  go_wp2_with fail
  refine HU.out.mono ?_
  rintro e w2 ⟨rfl, rfl⟩
  go_wp2_with fail
  go_loopg [6] (s.size + 1) (fun g i wx => ∃ j : Nat, i = .int .i64 j ∧ j ≤ s.size ∧ s.size - j < g ∧ wx = w2 ∧ Hid ((s.data.toList.drop j).contains c = s.data.toList.contains c))
  case atStart => exact ⟨0, rfl, by omega, by omega, rfl, rfl⟩
  case round =>
    obtain ⟨j, rfl, hj, hg, rfl, HD⟩ := hrel
    obtain ⟨g, rfl⟩ : ∃ g, gk = g + 1 := ⟨gk - 1, by omega⟩
    by_cases hlt : j < s.size
    · have hll : j < s.data.toList.length := by rw [HLEN.out]; exact hlt
      have hd := HD.out
      rw [List.drop_eq_getElem_cons hll, List.contains_cons, HAT.out j hll hlt] at hd
      by_cases hc : c = s[j]
      · have ht : (((s[j]'hlt).toNat : Int) == (c.toNat : Int)) = true := by rw [hc]; simp
        have HR := Lib.hid (show (usesS k).contains c = true by
          rw [← HL.out, ← hd, hc]
          simp)
        clear hc hd hll
        go_wp2_with fail
        go_ret
        exact ⟨ret_bool HR.out.symm, rfl⟩
      · have ht : (((s[j]'hlt).toNat : Int) == (c.toNat : Int)) = false := by
          rw [beq_eq_false_iff_ne]
          intro h
          exact hc (UInt8.toNat_inj.1 (by omega))
        have HD2 := Lib.hid (show (s.data.toList.drop (j + 1)).contains c = s.data.toList.contains c by
          rw [← hd, beq_eq_false_iff_ne.2 hc, Bool.false_or])
        clear hc hd hll
        go_wp2_with fail
        go_roundg g
        case measure => omega
        case rel => exact ⟨j + 1, by go_num, by omega, by omega, rfl, HD2⟩
    · have hje : j = s.size := by omega
      have HR := Lib.hid (show (usesS k).contains c = false by
        rw [← HL.out, ← HD.out, hje, ← HLEN.out, List.drop_length]
        rfl)
      go_wp2_with fail
      go_ret
      exact ⟨ret_bool HR.out.symm, rfl⟩
end Go.Proofs.YtgphigpbgiceiaaDoor
