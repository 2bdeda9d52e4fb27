/- The walk of dispatcherref01.Name; the law ScanWords. -/
import Derived.Test.YtjfoinikdifgmaaDoorScan3
namespace Go.Proofs.YtjfoinikdifgmaaDoor
open Go.RowKit

theorem head_letter (s : ByteArray) (h0 : 0 < s.size) : (s.data.toList.head?.any fun c => isLetter (c.toNat : Int)) = isLetter ((s[0]'h0).toNat : Int) := by
  have : s.data.toList.head? = some (s[0]'h0) := by
    rw [List.head?_eq_getElem?, List.getElem?_eq_getElem (by simpa using h0)]
    rfl
  rw [this]; rfl

set_option maxHeartbeats 2000000 in
set_option maxRecDepth 100000 in
theorem rname_any (s : ByteArray) (w : World) (hs : s.size ≤ 9223372036854775807) :
    Calls Tryd.prog 19 #[.string s] w fun e w' => e = .returned (.bool (isName s)) ∧ Below w.heap.size w w' := by
  have hlen : s.data.toList.length = s.size := by simp
  by_cases h0 : 0 < s.size
  · have hdef : isName s = ((lead isNamed s.data.toList == s.size) && isLetter ((s[0]'h0).toNat : Int) && decide (s.size ≤ 12) && !isWord s) := by
      unfold isName
      rw [head_letter s h0]
      simp [h0]
    have h255 : (s[0]'h0).toNat < 256 := UInt8.toNat_lt _
    have HD := Lib.hid hdef
    have HLEN := Lib.hid hlen
    clear hdef hlen
    have hcl := fun w => rletter_any ((s[0]'h0).toNat : Int) w
    have hw := rword_any s w
    by_cases h12 : s.size ≤ 12
    · cases hlet : isLetter ((s[0]'h0).toNat : Int)
      · rw [hlet] at hcl
        have HLt := Lib.hid hlet
        have HC := Lib.hid hcl
        clear hcl hlet hw
        go_enter Tryd.func19, Tryd.ntmps19
        go_wp2_with fail
        refine (HC.out _).mono ?_
        rintro e w1 ⟨rfl, rfl⟩
        go_wp2_with fail
        go_ret
        exact ⟨ret_bool (by rw [HD.out, HLt.out]; simp), Below.refl _ _⟩
      · rw [hlet] at hcl
        have HLt := Lib.hid hlet
        have HC := Lib.hid hcl
        clear hcl hlet
        cases hwd : isWord s
        · rw [hwd] at hw
          have HWd := Lib.hid hwd
          have HW := Lib.hid hw
          clear hw hwd
          go_enter Tryd.func19, Tryd.ntmps19
          go_wp2_with fail
          refine (HC.out _).mono ?_
          rintro e w1 ⟨rfl, rfl⟩
          go_wp2_with fail
          refine HW.out.mono ?_
          rintro e w1 ⟨rfl, hb⟩
          have HB := Lib.hid hb
          clear hb
          go_wp2_with fail
          go_loop [3] (fun i => ∃ k : Nat, k ≤ s.size ∧ i = .int .i64 k ∧ Hid (∀ j (hj : j < s.data.toList.length), j < k → isNamed ((s.data.toList[j].toNat : Nat) : Int) = true)) (fun i => s.size - (intOf i).toNat)
          case atStart => exact ⟨0, by omega, rfl, fun j _ hj => by omega⟩
          case round =>
            obtain ⟨k, hk, rfl, hall⟩ := hrel
            by_cases hlt : k < s.size
            · have hk255 : (s[k]'hlt).toNat < 256 := UInt8.toNat_lt _
              have hLk := rletter_any ((s[k]'hlt).toNat : Int) w1
              have hDk := rdigit_any ((s[k]'hlt).toNat : Int) w1
              have hE : ∀ (hj : k < s.data.toList.length), isNamed ((s.data.toList[k].toNat : Nat) : Int) = (isLetter ((s[k]'hlt).toNat : Int) || isDigit ((s[k]'hlt).toNat : Int)) := fun _ => rfl
              cases h1 : isLetter ((s[k]'hlt).toNat : Int)
              · rw [h1] at hLk hE
                have H1 := Lib.hid h1
                have HLk := Lib.hid hLk
                clear h1 hLk
                cases h2 : isDigit ((s[k]'hlt).toNat : Int)
                · rw [h2] at hDk hE
                  have H2 := Lib.hid h2
                  have HDk := Lib.hid hDk
                  have HE := Lib.hid hE
                  clear h2 hDk hE
                  go_wp2_with (first | (go_at_call 33; refine HLk.out.mono ?_; rintro e w' ⟨rfl, rfl⟩) | (go_at_call 34; refine HDk.out.mono ?_; rintro e w' ⟨rfl, rfl⟩))
                  go_ret
                  refine ⟨ret_bool ?_, HB.out⟩
                  have hL := HLEN.out
                  rw [HD.out, lead_stop (by omega) (fun j hj => hall j (by omega) hj) (HE.out (by omega))]
                  have : (k == s.size) = false := by simp; omega
                  rw [this]; rfl
                · rw [h2] at hDk hE
                  have H2 := Lib.hid h2
                  have HDk := Lib.hid hDk
                  have HE := Lib.hid hE
                  clear h2 hDk hE
                  go_wp2_with (first | (go_at_call 33; refine HLk.out.mono ?_; rintro e w' ⟨rfl, rfl⟩) | (go_at_call 34; refine HDk.out.mono ?_; rintro e w' ⟨rfl, rfl⟩))
                  go_round
                  case rel =>
                    refine ⟨k + 1, by omega, by go_num, fun j hj hjk => ?_⟩
                    by_cases e : j = k
                    · subst e; exact HE.out hj
                    · exact hall j hj (by omega)
                  case measure => simp [intOf]; omega
              · rw [h1] at hLk hE
                have H1 := Lib.hid h1
                have HLk := Lib.hid hLk
                have HE := Lib.hid hE
                clear h1 hLk hE hDk
                go_wp2_with (first | (go_at_call 33; refine HLk.out.mono ?_; rintro e w' ⟨rfl, rfl⟩))
                go_round
                case rel =>
                  refine ⟨k + 1, by omega, by go_num, fun j hj hjk => ?_⟩
                  by_cases e : j = k
                  · subst e; exact HE.out hj
                  · exact hall j hj (by omega)
                case measure => simp [intOf]; omega
            · obtain rfl : k = s.size := by omega
              go_wp2
              go_ret
              refine ⟨ret_bool ?_, HB.out⟩
              rw [HD.out, HLt.out, HWd.out, lead_all (fun j hj => hall j hj (by have := HLEN.out; omega)), HLEN.out]
              simp [h12]
        · rw [hwd] at hw
          have HWd := Lib.hid hwd
          have HW := Lib.hid hw
          clear hw hwd
          go_enter Tryd.func19, Tryd.ntmps19
          go_wp2_with fail
          refine (HC.out _).mono ?_
          rintro e w1 ⟨rfl, rfl⟩
          go_wp2_with fail
          refine HW.out.mono ?_
          rintro e w1 ⟨rfl, hb⟩
          have HB := Lib.hid hb
          clear hb
          go_wp2_with fail
          go_ret
          exact ⟨ret_bool (by rw [HD.out, HWd.out]; simp), HB.out⟩
    · clear hcl hw
      go_enter Tryd.func19, Tryd.ntmps19
      go_wp2_with fail
      go_ret
      exact ⟨ret_bool (by rw [HD.out]; simp [h12]), Below.refl _ _⟩
  · have hz : s.size = 0 := by omega
    have hsz : s = ByteArray.empty := by simpa using hz
    subst hsz
    clear hz h0 hs hlen
    have hd : isName ByteArray.empty = false := by decide
    rw [hd]
    go_enter Tryd.func19, Tryd.ntmps19
    go_wp2_with fail
    go_ret
    exact ⟨rfl, Below.refl _ _⟩
end Go.Proofs.YtjfoinikdifgmaaDoor
