/- The walks of scan.letter, digit, named, blank's literal, length (at each of the three it is called with), Word, Sign. -/
import Derived.Test.YtjfoinikdifgmaaDoorShelf
import Derived.Test.YtjfoinikdifgmaaDoorBase
import Derived.Test.YtjfoinikdifgmaaDoorScanP
import Derived.WalkKit
import Derived.WalkSpells
import Derived.WalkLawsBesides
import Derived.Lib.Hide
import Derived.Lib.TrimU
import Derived.Lib.OthersKept
import Derived.Deep.LoopGhost
import Derived.Deep.DeepFit
namespace Go.Proofs.YtjfoinikdifgmaaDoor
open Go.RowKit

set_option maxHeartbeats 400000 in
theorem letter_any (c : Int) (w : World) : Calls Tryd.prog 32 #[.int .i32 c] w fun e w' => e = .returned (.bool (isLetter c)) ∧ w' = w := by
  unfold isLetter
  by_cases h : 97 ≤ c
  all_goals
    go_enter Tryd.func32, Tryd.ntmps32
    go_wp2
    go_ret
    exact ⟨ret_bool (by first | (simp [h]; done) | (simp; omega)), rfl⟩
set_option maxHeartbeats 400000 in
theorem digit_any (c : Int) (w : World) : Calls Tryd.prog 44 #[.int .i32 c] w fun e w' => e = .returned (.bool (isDigit c)) ∧ w' = w := by
  unfold isDigit
  by_cases h : 48 ≤ c
  all_goals
    go_enter Tryd.func44, Tryd.ntmps44
    go_wp2
    go_ret
    exact ⟨ret_bool (by first | (simp [h]; done) | (simp; omega)), rfl⟩
set_option maxHeartbeats 400000 in
theorem named_any (c : Int) (w : World) : Calls Tryd.prog 31 #[.int .i32 c] w fun e w' => e = .returned (.bool (isNamed c)) ∧ w' = w := by
  have h1 := letter_any c w
  have h2 := digit_any c w
  unfold isNamed
  generalize isDigit c = b at *
  cases h : isLetter c
  all_goals
    rw [h] at h1
    have H1 := Lib.hid h1
    have H2 := Lib.hid h2
    clear h1 h2 h
    go_enter Tryd.func31, Tryd.ntmps31
    go_wp2_with (first | (go_at_call 32; refine H1.out.mono ?_; rintro e w' ⟨rfl, rfl⟩) | (go_at_call 44; refine H2.out.mono ?_; rintro e w' ⟨rfl, rfl⟩))
    go_ret
    exact ⟨ret_bool (by simp), rfl⟩
set_option maxHeartbeats 400000 in
theorem blank_any (c : Int) (w : World) : Calls Tryd.prog 48 #[.int .i32 c] w fun e w' => e = .returned (.bool (isBlank c)) ∧ w' = w := by
  unfold isBlank
  go_enter Tryd.func48, Tryd.ntmps48
  go_wp2
  all_goals
    go_ret
    exact ⟨ret_bool (by simp_all), rfl⟩

set_option maxHeartbeats 2000000 in
set_option maxRecDepth 1000000 in
theorem length_named (s : ByteArray) (w : World) (hs : s.size ≤ 9223372036854775807) :
    Calls Tryd.prog 30 #[.string s, .func (.func 31) #[] #[]] w fun e w' => e = .returned (.int .i64 (lead isNamed s.data.toList)) ∧ Below w.heap.size w w' := by
  go_enter Tryd.func30, Tryd.ntmps30
  go_wp2
  go_loopg [] s.size (fun g wx => ∃ pos : Nat, wx.heap[w.heap.size]? = some (.stringIter s pos) ∧ Below w.heap.size w wx ∧ pos ≤ s.size ∧ s.size ≤ pos + g ∧ Hid (∀ j (hj : j < s.data.toList.length), j < pos → isNamed ((s.data.toList[j].toNat : Nat) : Int) = true))
  case atStart => exact ⟨0, World.iter_heap w s 0, (Below.refl _ w).alloc (Nat.le_refl _) _, by omega, by omega, fun j _ hj => by omega⟩
  case round =>
    obtain ⟨pos, hit, hbw, hps, hfu, hall⟩ := hrel
    have hsz : w.heap.size < wr.heap.size := (Array.getElem?_eq_some_iff.1 hit).1
    have hlen : s.data.toList.length = s.size := by simp
    by_cases hp : pos < s.size
    · obtain ⟨g, rfl⟩ : ∃ g, gk = g + 1 := ⟨gk - 1, by omega⟩
      have hnx : ∀ ty, (Instr.next (.pointer (some ⟨w.heap.size, 0, none⟩)) true ty).run Tryd.prog wr = _ := fun ty => Lib.run_next_any_at wr w.heap.size s pos ty hit hp
      have hit2 := Lib.iterAt_heap wr w.heap.size s pos (pos + (Utf8.decode s pos).2) hit
      have hbw2 := Lib.below_iterAt hbw (k := w.heap.size) (Nat.le_refl _) s (pos + (Utf8.decode s pos).2)
      have hr1 := Lib.rune_le s pos
      by_cases ha : (s[pos]'hp).toNat < 128
      · rw [decode_ascii s pos hp ha] at hnx hit2 hbw2
        simp only at hit2 hbw2
        have hget : ((s[pos]'hp).toNat : Nat) = (s.data.toList[pos]'(by rw [hlen]; exact hp)).toNat := rfl
        have cS := named_any (((s[pos]'hp).toNat : Nat) : Int) (wr.iterAt w.heap.size s (pos + 1))
        have hw : ∀ n (hn : n < s.data.toList.length), n = pos → isNamed ((s.data.toList[n].toNat : Nat) : Int) = isNamed (((s[pos]'hp).toNat : Nat) : Int) := fun n hn e => by subst e; rfl
        have HW := Lib.hid hw
        clear hw hget
        generalize (s[pos]'hp).toNat = R at *
        generalize hWd : wr.iterAt w.heap.size s (pos + 1) = W at *
        clear hWd hr1
        cases hsp : isNamed (R : Int) with
        | true =>
          rw [hsp] at cS HW
          have CS := Lib.hid cS
          have H1 := Lib.hid hsp
          have HL := Lib.hid hlen
          clear cS hsp hlen
          go_wp2_with (refine CS.out.mono ?_; rintro e W' ⟨rfl, rfl⟩)
          go_roundg g
          case measure => omega
          case rel =>
            refine ⟨pos + 1, hit2, hbw2, by omega, by omega, fun j hj hlt => ?_⟩
            by_cases e : j = pos
            · exact HW.out j hj e
            · exact hall j hj (by omega)
        | false =>
          rw [hsp] at cS HW
          have CS := Lib.hid cS
          have H1 := Lib.hid hsp
          have HL := Lib.hid hlen
          clear cS hsp hlen
          go_wp2_with (refine CS.out.mono ?_; rintro e W' ⟨rfl, rfl⟩)
          go_ret
          refine ⟨ret_int ?_, hbw2⟩
          have hlt : pos < s.data.toList.length := by rw [HL.out]; exact hp
          rw [lead_stop hlt (fun j hj => hall j (by omega) hj) (HW.out pos hlt rfl)]
      · have hd := decode_high s pos hp (by omega)
        have hstop : isNamed (((s[pos]'hp).toNat : Nat) : Int) = false := isNamed_high (by omega)
        have hw : ∀ n (hn : n < s.data.toList.length), n = pos → isNamed ((s.data.toList[n].toNat : Nat) : Int) = isNamed (((s[pos]'hp).toNat : Nat) : Int) := fun n hn e => by subst e; rfl
        rw [hstop] at hw
        have HW := Lib.hid hw
        clear hw hstop ha
        generalize (Utf8.decode s pos).2 = K at *
        generalize (Utf8.decode s pos).1 = R at *
        generalize hWd : wr.iterAt w.heap.size s (pos + K) = W at *
        clear hWd
        have cS := named_any (R : Int) W
        rw [isNamed_high (by omega)] at cS
        have CS := Lib.hid cS
        have HL := Lib.hid hlen
        clear cS hlen
        go_wp2_with (refine CS.out.mono ?_; rintro e W' ⟨rfl, rfl⟩)
        go_ret
        refine ⟨ret_int ?_, hbw2⟩
        have hlt : pos < s.data.toList.length := by rw [HL.out]; exact hp
        rw [lead_stop hlt (fun j hj => hall j (by omega) hj) (HW.out pos hlt rfl)]
    · have hnx : ∀ ty, (Instr.next (.pointer (some ⟨w.heap.size, 0, none⟩)) true ty).run Tryd.prog wr = _ := fun ty => Lib.run_next_end_at wr w.heap.size s pos ty hit hp
      have HL := Lib.hid hlen
      clear hlen
      go_wp2
      go_ret
      refine ⟨ret_int ?_, hbw⟩
      rw [lead_all (fun j hj => hall j hj (by have := HL.out; omega))]
      have := HL.out
      simp

set_option maxHeartbeats 2000000 in
set_option maxRecDepth 1000000 in
theorem length_digit (s : ByteArray) (w : World) (hs : s.size ≤ 9223372036854775807) :
    Calls Tryd.prog 30 #[.string s, .func (.func 44) #[] #[]] w fun e w' => e = .returned (.int .i64 (lead isDigit s.data.toList)) ∧ Below w.heap.size w w' := by
  go_enter Tryd.func30, Tryd.ntmps30
  go_wp2
  go_loopg [] s.size (fun g wx => ∃ pos : Nat, wx.heap[w.heap.size]? = some (.stringIter s pos) ∧ Below w.heap.size w wx ∧ pos ≤ s.size ∧ s.size ≤ pos + g ∧ Hid (∀ j (hj : j < s.data.toList.length), j < pos → isDigit ((s.data.toList[j].toNat : Nat) : Int) = true))
  case atStart => exact ⟨0, World.iter_heap w s 0, (Below.refl _ w).alloc (Nat.le_refl _) _, by omega, by omega, fun j _ hj => by omega⟩
  case round =>
    obtain ⟨pos, hit, hbw, hps, hfu, hall⟩ := hrel
    have hsz : w.heap.size < wr.heap.size := (Array.getElem?_eq_some_iff.1 hit).1
    have hlen : s.data.toList.length = s.size := by simp
    by_cases hp : pos < s.size
    · obtain ⟨g, rfl⟩ : ∃ g, gk = g + 1 := ⟨gk - 1, by omega⟩
      have hnx : ∀ ty, (Instr.next (.pointer (some ⟨w.heap.size, 0, none⟩)) true ty).run Tryd.prog wr = _ := fun ty => Lib.run_next_any_at wr w.heap.size s pos ty hit hp
      have hit2 := Lib.iterAt_heap wr w.heap.size s pos (pos + (Utf8.decode s pos).2) hit
      have hbw2 := Lib.below_iterAt hbw (k := w.heap.size) (Nat.le_refl _) s (pos + (Utf8.decode s pos).2)
      have hr1 := Lib.rune_le s pos
      by_cases ha : (s[pos]'hp).toNat < 128
      · rw [decode_ascii s pos hp ha] at hnx hit2 hbw2
        simp only at hit2 hbw2
        have hget : ((s[pos]'hp).toNat : Nat) = (s.data.toList[pos]'(by rw [hlen]; exact hp)).toNat := rfl
        have cS := digit_any (((s[pos]'hp).toNat : Nat) : Int) (wr.iterAt w.heap.size s (pos + 1))
        have hw : ∀ n (hn : n < s.data.toList.length), n = pos → isDigit ((s.data.toList[n].toNat : Nat) : Int) = isDigit (((s[pos]'hp).toNat : Nat) : Int) := fun n hn e => by subst e; rfl
        have HW := Lib.hid hw
        clear hw hget
        generalize (s[pos]'hp).toNat = R at *
        generalize hWd : wr.iterAt w.heap.size s (pos + 1) = W at *
        clear hWd hr1
        cases hsp : isDigit (R : Int) with
        | true =>
          rw [hsp] at cS HW
          have CS := Lib.hid cS
          have H1 := Lib.hid hsp
          have HL := Lib.hid hlen
          clear cS hsp hlen
          go_wp2_with (refine CS.out.mono ?_; rintro e W' ⟨rfl, rfl⟩)
          go_roundg g
          case measure => omega
          case rel =>
            refine ⟨pos + 1, hit2, hbw2, by omega, by omega, fun j hj hlt => ?_⟩
            by_cases e : j = pos
            · exact HW.out j hj e
            · exact hall j hj (by omega)
        | false =>
          rw [hsp] at cS HW
          have CS := Lib.hid cS
          have H1 := Lib.hid hsp
          have HL := Lib.hid hlen
          clear cS hsp hlen
          go_wp2_with (refine CS.out.mono ?_; rintro e W' ⟨rfl, rfl⟩)
          go_ret
          refine ⟨ret_int ?_, hbw2⟩
          have hlt : pos < s.data.toList.length := by rw [HL.out]; exact hp
          rw [lead_stop hlt (fun j hj => hall j (by omega) hj) (HW.out pos hlt rfl)]
      · have hd := decode_high s pos hp (by omega)
        have hstop : isDigit (((s[pos]'hp).toNat : Nat) : Int) = false := isDigit_high (by omega)
        have hw : ∀ n (hn : n < s.data.toList.length), n = pos → isDigit ((s.data.toList[n].toNat : Nat) : Int) = isDigit (((s[pos]'hp).toNat : Nat) : Int) := fun n hn e => by subst e; rfl
        rw [hstop] at hw
        have HW := Lib.hid hw
        clear hw hstop ha
        generalize (Utf8.decode s pos).2 = K at *
        generalize (Utf8.decode s pos).1 = R at *
        generalize hWd : wr.iterAt w.heap.size s (pos + K) = W at *
        clear hWd
        have cS := digit_any (R : Int) W
        rw [isDigit_high (by omega)] at cS
        have CS := Lib.hid cS
        have HL := Lib.hid hlen
        clear cS hlen
        go_wp2_with (refine CS.out.mono ?_; rintro e W' ⟨rfl, rfl⟩)
        go_ret
        refine ⟨ret_int ?_, hbw2⟩
        have hlt : pos < s.data.toList.length := by rw [HL.out]; exact hp
        rw [lead_stop hlt (fun j hj => hall j (by omega) hj) (HW.out pos hlt rfl)]
    · have hnx : ∀ ty, (Instr.next (.pointer (some ⟨w.heap.size, 0, none⟩)) true ty).run Tryd.prog wr = _ := fun ty => Lib.run_next_end_at wr w.heap.size s pos ty hit hp
      have HL := Lib.hid hlen
      clear hlen
      go_wp2
      go_ret
      refine ⟨ret_int ?_, hbw⟩
      rw [lead_all (fun j hj => hall j hj (by have := HL.out; omega))]
      have := HL.out
      simp

set_option maxHeartbeats 2000000 in
set_option maxRecDepth 1000000 in
theorem length_blank (s : ByteArray) (w : World) (hs : s.size ≤ 9223372036854775807) :
    Calls Tryd.prog 30 #[.string s, .func (.func 48) #[] #[]] w fun e w' => e = .returned (.int .i64 (lead isBlank s.data.toList)) ∧ Below w.heap.size w w' := by
  go_enter Tryd.func30, Tryd.ntmps30
  go_wp2
  go_loopg [] s.size (fun g wx => ∃ pos : Nat, wx.heap[w.heap.size]? = some (.stringIter s pos) ∧ Below w.heap.size w wx ∧ pos ≤ s.size ∧ s.size ≤ pos + g ∧ Hid (∀ j (hj : j < s.data.toList.length), j < pos → isBlank ((s.data.toList[j].toNat : Nat) : Int) = true))
  case atStart => exact ⟨0, World.iter_heap w s 0, (Below.refl _ w).alloc (Nat.le_refl _) _, by omega, by omega, fun j _ hj => by omega⟩
  case round =>
    obtain ⟨pos, hit, hbw, hps, hfu, hall⟩ := hrel
    have hsz : w.heap.size < wr.heap.size := (Array.getElem?_eq_some_iff.1 hit).1
    have hlen : s.data.toList.length = s.size := by simp
    by_cases hp : pos < s.size
    · obtain ⟨g, rfl⟩ : ∃ g, gk = g + 1 := ⟨gk - 1, by omega⟩
      have hnx : ∀ ty, (Instr.next (.pointer (some ⟨w.heap.size, 0, none⟩)) true ty).run Tryd.prog wr = _ := fun ty => Lib.run_next_any_at wr w.heap.size s pos ty hit hp
      have hit2 := Lib.iterAt_heap wr w.heap.size s pos (pos + (Utf8.decode s pos).2) hit
      have hbw2 := Lib.below_iterAt hbw (k := w.heap.size) (Nat.le_refl _) s (pos + (Utf8.decode s pos).2)
      have hr1 := Lib.rune_le s pos
      by_cases ha : (s[pos]'hp).toNat < 128
      · rw [decode_ascii s pos hp ha] at hnx hit2 hbw2
        simp only at hit2 hbw2
        have hget : ((s[pos]'hp).toNat : Nat) = (s.data.toList[pos]'(by rw [hlen]; exact hp)).toNat := rfl
        have cS := blank_any (((s[pos]'hp).toNat : Nat) : Int) (wr.iterAt w.heap.size s (pos + 1))
        have hw : ∀ n (hn : n < s.data.toList.length), n = pos → isBlank ((s.data.toList[n].toNat : Nat) : Int) = isBlank (((s[pos]'hp).toNat : Nat) : Int) := fun n hn e => by subst e; rfl
        have HW := Lib.hid hw
        clear hw hget
        generalize (s[pos]'hp).toNat = R at *
        generalize hWd : wr.iterAt w.heap.size s (pos + 1) = W at *
        clear hWd hr1
        cases hsp : isBlank (R : Int) with
        | true =>
          rw [hsp] at cS HW
          have CS := Lib.hid cS
          have H1 := Lib.hid hsp
          have HL := Lib.hid hlen
          clear cS hsp hlen
          go_wp2_with (refine CS.out.mono ?_; rintro e W' ⟨rfl, rfl⟩)
          go_roundg g
          case measure => omega
          case rel =>
            refine ⟨pos + 1, hit2, hbw2, by omega, by omega, fun j hj hlt => ?_⟩
            by_cases e : j = pos
            · exact HW.out j hj e
            · exact hall j hj (by omega)
        | false =>
          rw [hsp] at cS HW
          have CS := Lib.hid cS
          have H1 := Lib.hid hsp
          have HL := Lib.hid hlen
          clear cS hsp hlen
          go_wp2_with (refine CS.out.mono ?_; rintro e W' ⟨rfl, rfl⟩)
          go_ret
          refine ⟨ret_int ?_, hbw2⟩
          have hlt : pos < s.data.toList.length := by rw [HL.out]; exact hp
          rw [lead_stop hlt (fun j hj => hall j (by omega) hj) (HW.out pos hlt rfl)]
      · have hd := decode_high s pos hp (by omega)
        have hstop : isBlank (((s[pos]'hp).toNat : Nat) : Int) = false := isBlank_high (by omega)
        have hw : ∀ n (hn : n < s.data.toList.length), n = pos → isBlank ((s.data.toList[n].toNat : Nat) : Int) = isBlank (((s[pos]'hp).toNat : Nat) : Int) := fun n hn e => by subst e; rfl
        rw [hstop] at hw
        have HW := Lib.hid hw
        clear hw hstop ha
        generalize (Utf8.decode s pos).2 = K at *
        generalize (Utf8.decode s pos).1 = R at *
        generalize hWd : wr.iterAt w.heap.size s (pos + K) = W at *
        clear hWd
        have cS := blank_any (R : Int) W
        rw [isBlank_high (by omega)] at cS
        have CS := Lib.hid cS
        have HL := Lib.hid hlen
        clear cS hlen
        go_wp2_with (refine CS.out.mono ?_; rintro e W' ⟨rfl, rfl⟩)
        go_ret
        refine ⟨ret_int ?_, hbw2⟩
        have hlt : pos < s.data.toList.length := by rw [HL.out]; exact hp
        rw [lead_stop hlt (fun j hj => hall j (by omega) hj) (HW.out pos hlt rfl)]
    · have hnx : ∀ ty, (Instr.next (.pointer (some ⟨w.heap.size, 0, none⟩)) true ty).run Tryd.prog wr = _ := fun ty => Lib.run_next_end_at wr w.heap.size s pos ty hit hp
      have HL := Lib.hid hlen
      clear hlen
      go_wp2
      go_ret
      refine ⟨ret_int ?_, hbw⟩
      rw [lead_all (fun j hj => hall j hj (by have := HL.out; omega))]
      have := HL.out
      simp

end Go.Proofs.YtjfoinikdifgmaaDoor
