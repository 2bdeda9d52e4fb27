/- The walks of dispatcherref03.Digits, dispatcherref05.Number (as in CodeD, for a seat without chapter 05). -/
import Derived.Test.YtgphigpbgiceiaaDoorProg
import Derived.Test.YtgphigpbgiceiaaDoorPk0
import Derived.Test.YtgphigpbgiceiaaDoorCodeI
import Derived.Lib.ItoaLen
import Derived.WalkKit
import Derived.WalkSpells
import Derived.Lib.Hide
import Derived.Laws.BytesArg
namespace Go.Proofs.YtgphigpbgiceiaaDoor
open Go.RowKit Go.Sort
set_option linter.unusedVariables false
set_option linter.unusedSimpArgs false

theorem convert_digit (w : World) (n : Nat) : (convert 79 9 (.slice (some ⟨w.heap.size, 0, none⟩) 1 1)).run Tryd.prog (w.alloc (.cells #[.int .u8 (48 + (n : Int) % 10)] 5)) = .ok (.string ⟨[UInt8.ofNat (48 + n % 10)].toArray⟩) (w.alloc (.cells #[.int .u8 (48 + (n : Int) % 10)] 5)) := by
  have h := run_convert_bytes_arg (w.alloc (.cells #[.int .u8 (48 + (n : Int) % 10)] 5)) 79 5 Tryd.underlying79 Tryd.underlying5 w.heap.size 0 1 1 [48 + (n : Int) % 10] rfl (fun i hi => by
    obtain rfl : i = 0 := by omega
    rw [Lib.cell_of_heap (heap_alloc_new w _)]
    rfl) 9 Tryd.underlying9
  rw [h]
  have e : (48 + (n : Int) % 10).toNat = 48 + n % 10 := by omega
  simp [strOfNums, e]
theorem dec_small {n : Nat} (h : n < 10) : Lib.decDigits n = [UInt8.ofNat (48 + n % 10)] := by
  rw [Lib.decDigits, dif_pos h, Nat.mod_eq_of_lt h]
theorem dec_great {n : Nat} (h : ¬ n < 10) : Lib.decDigits n = Lib.decDigits (n / 10) ++ [UInt8.ofNat (48 + n % 10)] := by
  rw [Lib.decDigits, dif_neg h]

set_option maxHeartbeats 1000000 in
set_option maxRecDepth 100000 in
theorem digits_any : ∀ n : Nat, n ≤ 9223372036854775807 → ∀ w : World, Calls Tryd.prog 46 #[.int .i64 n] w fun e w' => e = .returned (.string ⟨(Lib.decDigits n).toArray⟩) ∧ Below w.heap.size w w' := by
  intro n
  induction n using Nat.strongRecOn with
  | _ n ih =>
  intro hn w
  have hcv := convert_digit w n
  obtain ⟨d, hd⟩ : ∃ d, d = UInt8.ofNat (48 + n % 10) := ⟨_, rfl⟩
  rw [← hd] at hcv
  have hb : Below w.heap.size w (w.alloc (.cells #[.int .u8 (48 + (n : Int) % 10)] 5)) := (Below.refl _ _).alloc (Nat.le_refl _) _
  have HB := Lib.hid hb
  clear hb
  by_cases hs : n < 10
  · have HE := Lib.hid (dec_small hs)
    rw [← hd] at HE
    clear hd
    clear ih
    go_enter Tryd.func46, Tryd.ntmps46
    go_wp2_with fail
    go_ret
    exact ⟨ret_str (by rw [HE.out]), HB.out⟩
  · have hih := ih (n / 10) (by omega) (by omega)
    simp only [Int.natCast_ediv, Int.cast_ofNat_Int] at hih
    have HIH := Lib.hid hih
    have HE := Lib.hid (dec_great hs)
    rw [← hd] at HE
    clear hd
    have hbig : (Lib.decDigits (n / 10)).length ≤ 30 := by
      have h := Lib.itoa_length_le ((n / 10 : Nat) : Int) (by omega) (by omega)
      rw [Lib.itoa_nonneg] at h
      omega
    clear ih hih
    go_enter Tryd.func46, Tryd.ntmps46
    go_upto_region 2 with fail
    clear hcv
    generalize (w.alloc (.cells #[.int .u8 (48 + (n : Int) % 10)] 5)) = w1 at *
    go_wp2_with fail
    refine (HIH.out w1).mono ?_
    rintro e w2 ⟨rfl, hb2⟩
    have HB2 := Lib.hid (HB.out.trans (hb2.mono HB.out.size))
    clear hb2
    go_wp2_with fail
    go_ret
    refine ⟨ret_str ?_, HB2.out⟩
    rw [HE.out]
    apply ByteArray.ext
    simp

set_option maxHeartbeats 1000000 in
set_option maxRecDepth 100000 in
theorem number_any (n : Int) (h0 : -9223372036854775808 ≤ n) (h1 : n ≤ 9223372036854775807) (w : World) : Calls Tryd.prog 14 #[.int .i64 n] w fun e w' => e = .returned (.string ⟨(Lib.itoa n).toArray⟩) ∧ Below w.heap.size w w' := by
  by_cases hs : 0 ≤ n
  · obtain ⟨u, rfl⟩ : ∃ u : Nat, n = u := ⟨n.toNat, by omega⟩
    have HI := Lib.hid (digits_any u (by omega))
    go_enter Tryd.func14, Tryd.ntmps14
    go_wp2_with fail
    refine (HI.out w).mono ?_
    rintro e w2 ⟨rfl, hb2⟩
    have HB2 := Lib.hid hb2
    clear hb2
    go_wp2_with fail
    go_ret
    exact ⟨ret_str (by rw [Lib.itoa_nonneg]), HB2.out⟩
  · obtain ⟨u, rfl⟩ : ∃ u : Nat, n = -(u : Int) := ⟨n.natAbs, by omega⟩
    have h1' := digits_any (u / 10) (by omega)
    have h2' := digits_any (u % 10) (by omega)
    simp only [Int.natCast_ediv, Int.natCast_emod, Int.cast_ofNat_Int] at h1' h2'
    have HI1 := Lib.hid h1'
    have HI2 := Lib.hid h2'
    have hb1 : (Lib.decDigits (u / 10)).length ≤ 30 := by
      have h := Lib.itoa_length_le ((u / 10 : Nat) : Int) (by omega) (by omega)
      rw [Lib.itoa_nonneg] at h
      omega
    have hb2 : (Lib.decDigits (u % 10)).length ≤ 30 := by
      have h := Lib.itoa_length_le ((u % 10 : Nat) : Int) (by omega) (by omega)
      rw [Lib.itoa_nonneg] at h
      omega
    have HN := Lib.hid (Lib.itoa_neg u (by omega))
    have HD := Lib.hid (dec_small (n := u % 10) (by omega))
    clear h1' h2'
    by_cases ht : u < 10
    · have HE := Lib.hid (dec_small ht)
      have e1 : (u : Int) / 10 = 0 := by omega
      go_enter Tryd.func14, Tryd.ntmps14
      go_wp2_with fail
      refine (HI2.out w).mono ?_
      rintro e w2 ⟨rfl, hb2⟩
      have HB2 := Lib.hid hb2
      clear hb2
      go_wp2_with fail
      go_ret
      refine ⟨ret_str ?_, HB2.out⟩
      rw [HN.out, HE.out, HD.out, Nat.mod_mod]
      apply ByteArray.ext
      simp
    · have HE := Lib.hid (dec_great ht)
      have hne : (-((u : Int) / 10) != 0) = true := by simp; omega
      go_enter Tryd.func14, Tryd.ntmps14
      go_wp2_with fail
      refine (HI1.out w).mono ?_
      rintro e w2 ⟨rfl, hb2⟩
      have HB2 := Lib.hid hb2
      clear hb2
      go_wp2_with fail
      refine (HI2.out w2).mono ?_
      rintro e w3 ⟨rfl, hb3⟩
      have HB3 := Lib.hid (HB2.out.trans (hb3.mono HB2.out.size))
      clear hb3
      go_wp2_with fail
      go_ret
      refine ⟨ret_str ?_, HB3.out⟩
      rw [HN.out, HE.out, HD.out, Nat.mod_mod]
      apply ByteArray.ext
      simp

end Go.Proofs.YtgphigpbgiceiaaDoor
