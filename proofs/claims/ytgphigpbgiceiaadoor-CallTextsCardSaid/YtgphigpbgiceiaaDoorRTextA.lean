/- The walks of the reference's word, red, Number, list. -/
import Derived.Test.YtgphigpbgiceiaaDoorTrimOk
import Derived.Test.YtgphigpbgiceiaaDoorCtRow
import Derived.Test.YtgphigpbgiceiaaDoorDig
import Derived.Deep.LoopGhost
namespace Go.Proofs.YtgphigpbgiceiaaDoor
open Go.RowKit Go.Sort
set_option linter.unusedVariables false
set_option linter.unusedSimpArgs false

theorem num16_any (n : Int) (hn : I64 n) (w : World) : Calls Tryd.prog 15 #[.int .i64 n] w fun e w' => e = .returned (.string (itoaB n)) ∧ Below w.heap.size w w' := by
  have HN := Lib.hid (number_any n hn.1 hn.2)
  have hb := hn
  unfold I64 at hb
  clear hn
  go_enter Tryd.func15, Tryd.ntmps15
  go_wp2_with fail
  refine (HN.out _).mono ?_
  rintro e w2 ⟨rfl, hb2⟩
  have HB2 := Lib.hid hb2
  clear hb2
  go_wp2_with fail
  go_ret
  exact ⟨rfl, HB2.out⟩
theorem word_cells (w : World) (k : Nat) (hk : k < 22) : (w.alloc (.cells #[.string ⟨#[115, 101, 110, 100]⟩, .string ⟨#[115, 115, 101, 110, 100]⟩, .string ⟨#[98, 115, 101, 110, 100]⟩, .string ⟨#[105, 115, 101, 110, 100]⟩, .string ⟨#[105, 115, 115, 101, 110, 100]⟩, .string ⟨#[114, 101, 99, 118]⟩, .string ⟨#[105, 114, 101, 99, 118]⟩, .string ⟨#[119, 97, 105, 116]⟩, .string ⟨#[119, 97, 105, 116, 97, 108, 108]⟩, .string ⟨#[119, 97, 105, 116, 97, 110, 121]⟩, .string ⟨#[116, 101, 115, 116]⟩, .string ⟨#[116, 101, 115, 116, 97, 110, 121]⟩, .string ⟨#[112, 114, 111, 98, 101]⟩, .string ⟨#[105, 112, 114, 111, 98, 101]⟩, .string ⟨#[98, 97, 114, 114, 105, 101, 114]⟩, .string ⟨#[98, 99, 97, 115, 116]⟩, .string ⟨#[114, 101, 100, 117, 99, 101]⟩, .string ⟨#[97, 108, 108, 114, 101, 100, 117, 99, 101]⟩, .string ⟨#[103, 97, 116, 104, 101, 114]⟩, .string ⟨#[100, 117, 112]⟩, .string ⟨#[115, 112, 108, 105, 116]⟩, .string ⟨#[102, 114, 101, 101]⟩] 9)).cell? ⟨w.heap.size, k, none⟩ = some (.string ⟨(clWords.getD k []).toArray⟩) := by
  rw [Lib.cell_of_heap (heap_alloc_new w _)]
  match k, hk with
  | 0, _ | 1, _ | 2, _ | 3, _ | 4, _ | 5, _ | 6, _ | 7, _ | 8, _ | 9, _ | 10, _ | 11, _ | 12, _ | 13, _ | 14, _ | 15, _ | 16, _ | 17, _ | 18, _ | 19, _ | 20, _ | 21, _ => rfl
  | n + 22, h => omega
set_option maxHeartbeats 2000000 in
set_option maxRecDepth 100000 in
theorem word16_any (k : Int) (h1 : 1 ≤ k) (h2 : k ≤ 22) (w : World) : Calls Tryd.prog 26 #[.int .u8 k] w fun e w' => e = .returned (.string ⟨(wordK k).toArray⟩) ∧ Below w.heap.size w w' := by
  obtain ⟨n, rfl⟩ : ∃ n : Nat, k = (n : Int) + 1 := ⟨(k - 1).toNat, by omega⟩
  have hn : n < 22 := by omega
  have hc := word_cells w n hn
  obtain ⟨W, hW⟩ : ∃ W : ByteArray, (⟨(clWords.getD n []).toArray⟩ : ByteArray) = W := ⟨_, rfl⟩
  rw [hW] at hc
  have HW := Lib.hid (show (⟨(wordK ((n : Int) + 1)).toArray⟩ : ByteArray) = W by
    rw [← hW]
    unfold wordK
    rw [if_pos (by omega)]
    congr 3
    omega)
  have HB := Lib.hid (show Below w.heap.size w (w.alloc (.cells #[.string ⟨#[115, 101, 110, 100]⟩, .string ⟨#[115, 115, 101, 110, 100]⟩, .string ⟨#[98, 115, 101, 110, 100]⟩, .string ⟨#[105, 115, 101, 110, 100]⟩, .string ⟨#[105, 115, 115, 101, 110, 100]⟩, .string ⟨#[114, 101, 99, 118]⟩, .string ⟨#[105, 114, 101, 99, 118]⟩, .string ⟨#[119, 97, 105, 116]⟩, .string ⟨#[119, 97, 105, 116, 97, 108, 108]⟩, .string ⟨#[119, 97, 105, 116, 97, 110, 121]⟩, .string ⟨#[116, 101, 115, 116]⟩, .string ⟨#[116, 101, 115, 116, 97, 110, 121]⟩, .string ⟨#[112, 114, 111, 98, 101]⟩, .string ⟨#[105, 112, 114, 111, 98, 101]⟩, .string ⟨#[98, 97, 114, 114, 105, 101, 114]⟩, .string ⟨#[98, 99, 97, 115, 116]⟩, .string ⟨#[114, 101, 100, 117, 99, 101]⟩, .string ⟨#[97, 108, 108, 114, 101, 100, 117, 99, 101]⟩, .string ⟨#[103, 97, 116, 104, 101, 114]⟩, .string ⟨#[100, 117, 112]⟩, .string ⟨#[115, 112, 108, 105, 116]⟩, .string ⟨#[102, 114, 101, 101]⟩] 9)) from (Below.refl _ _).alloc (Nat.le_refl _) _)
  have HC := Lib.hid hc
  have hki : IntKind.u8.wrap ((n : Int) + 1 - 1) = (n : Int) := by
    rw [IntWalk.u8_in _ (by omega)]
    omega
  clear hc hW
  go_enter Tryd.func26, Tryd.ntmps26
  go_upto_region 2 with fail
  generalize w.alloc (.cells #[.string ⟨#[115, 101, 110, 100]⟩, .string ⟨#[115, 115, 101, 110, 100]⟩, .string ⟨#[98, 115, 101, 110, 100]⟩, .string ⟨#[105, 115, 101, 110, 100]⟩, .string ⟨#[105, 115, 115, 101, 110, 100]⟩, .string ⟨#[114, 101, 99, 118]⟩, .string ⟨#[105, 114, 101, 99, 118]⟩, .string ⟨#[119, 97, 105, 116]⟩, .string ⟨#[119, 97, 105, 116, 97, 108, 108]⟩, .string ⟨#[119, 97, 105, 116, 97, 110, 121]⟩, .string ⟨#[116, 101, 115, 116]⟩, .string ⟨#[116, 101, 115, 116, 97, 110, 121]⟩, .string ⟨#[112, 114, 111, 98, 101]⟩, .string ⟨#[105, 112, 114, 111, 98, 101]⟩, .string ⟨#[98, 97, 114, 114, 105, 101, 114]⟩, .string ⟨#[98, 99, 97, 115, 116]⟩, .string ⟨#[114, 101, 100, 117, 99, 101]⟩, .string ⟨#[97, 108, 108, 114, 101, 100, 117, 99, 101]⟩, .string ⟨#[103, 97, 116, 104, 101, 114]⟩, .string ⟨#[100, 117, 112]⟩, .string ⟨#[115, 112, 108, 105, 116]⟩, .string ⟨#[102, 114, 101, 101]⟩] 9) = w1 at *
  have c0 := HC.out
  have hnt : (n : Int).toNat = n := rfl
  have hnI : (n : Int) < 22 := by omega
  go_wp2_with fail
  go_ret
  exact ⟨ret_str HW.out.symm, HB.out⟩
theorem red16_any (n : Int) (h0 : 0 ≤ n) (h2 : n ≤ 2) (w : World) : Calls Tryd.prog 27 #[.int .u8 n] w fun e w' => e = .returned (.string ⟨(redK n).toArray⟩) ∧ w' = w := by
  have hn : n = 0 ∨ n = 1 ∨ n = 2 := by omega
  clear h0 h2
  rcases hn with rfl | rfl | rfl
  all_goals
    go_enter Tryd.func27, Tryd.ntmps27
    go_wp2_with fail
    go_ret
    exact ⟨rfl, rfl⟩
theorem join_snoc (xs : List (List UInt8)) (x sep : List UInt8) (h : xs ≠ []) : Lib.join (xs ++ [x]) sep = Lib.join xs sep ++ sep ++ x := by
  cases xs with
  | nil => exact absurd rfl h
  | cons y ys =>
    rw [List.cons_append, Lib.join_cons, Lib.join_cons]
    have : Lib.joinTail sep (ys ++ [x]) = Lib.joinTail sep ys ++ (sep ++ x) := by simp [Lib.joinTail]
    rw [this]
    simp
theorem itoaB_small {n : Int} (h : I64 n) : (itoaB n).size ≤ 21 := by
  rw [itoaB_size]
  exact Lib.itoa_length_le n h.1 h.2
set_option maxHeartbeats 4000000 in
set_option maxRecDepth 100000 in
theorem list16_any (A : Option Addr) (cap : Nat) (l : List Int) (w : World) (hR : IntRow w A l) (hl : l.length ≤ 1000) (hn : ∀ n ∈ l, I64 n) :
    Calls Tryd.prog 28 #[.slice A l.length cap, .string ⟨#[44, 32]⟩] w fun e w' => e = .returned (.string ⟨(Lib.join (l.map Lib.itoa) [44, 32]).toArray⟩) ∧ Below w.heap.size w w' := by
  have HR := Lib.hid hR
  have HN := Lib.hid hn
  clear hR hn
  go_enter Tryd.func28, Tryd.ntmps28
  go_wp2_with fail
  go_loopg [5, 6] (l.length + 1) (fun g2 s i wx => ∃ (k : Nat) (S : ByteArray), i = .int .i64 k ∧ s = .string S ∧ k ≤ l.length ∧ l.length - k < g2 ∧ S.size ≤ 23 * k ∧ Hid (S = ⟨(Lib.join ((l.take k).map Lib.itoa) [44, 32]).toArray⟩) ∧ Hid (Below w.heap.size w wx))
  case atStart => exact ⟨0, ⟨#[]⟩, rfl, rfl, by omega, by omega, by decide, Lib.hid rfl, Lib.hid (Below.refl _ _)⟩
  case round =>
    obtain ⟨k, S, rfl, rfl, hk, hg2, hS, HS, HB⟩ := hrel
    obtain ⟨g, rfl⟩ : ∃ g, gk = g + 1 := ⟨gk - 1, by omega⟩
    by_cases hlt : k < l.length
    · have hdl : decide (k < l.length) = true := by simpa using hlt
      obtain ⟨b, o, rfl, hbl, c0⟩ := (HR.out.below HB.out) k hlt
      have HI := Lib.hid (HN.out l[k] (List.getElem_mem hlt))
      have HTK := Lib.hid (show (l.take (k + 1)).map Lib.itoa = (l.take k).map Lib.itoa ++ [Lib.itoa l[k]] by rw [List.take_succ_eq_append_getElem hlt, List.map_append]; rfl)
      generalize l[k] = x at *
      have HNU := Lib.hid (num16_any x HI.out wr)
      have hxs := itoaB_small HI.out
      clear hbl
      rcases Nat.eq_zero_or_pos k with hk0 | hk0
      · subst hk0
        rw [Nat.add_zero] at c0
        have hd0 : decide ((0 : Int) < ((0 : Nat) : Int)) = false := by decide
        have HS2 := Lib.hid (show itoaB x = ⟨(Lib.join ((l.take (0 + 1)).map Lib.itoa) [44, 32]).toArray⟩ by rw [HTK.out, List.take_zero, List.map_nil, List.nil_append, Lib.join_one]; rfl)
        have hS0 : S = ⟨#[]⟩ := HS.out
        subst hS0
        generalize itoaB x = T at *
        go_wp2_with fail
        refine HNU.out.mono ?_
        rintro e w2 ⟨rfl, hb2⟩
        have HB2 := Lib.hid (HB.out.trans (hb2.mono HB.out.size))
        clear hb2 c0 HNU
        go_wp2_with fail
        go_roundg g
        case measure => omega
        case rel => exact ⟨1, T, by go_num, by first | rfl | (apply congrArg; apply ByteArray.ext; simp), by omega, by omega, by omega, HS2, HB2⟩
      · have hd0 : decide ((0 : Int) < (k : Int)) = true := by simp; omega
        have HS2 := Lib.hid (show S ++ ⟨#[44, 32]⟩ ++ itoaB x = ⟨(Lib.join ((l.take (k + 1)).map Lib.itoa) [44, 32]).toArray⟩ by
          rw [HTK.out, join_snoc _ _ _ (fun h => by have := congrArg List.length h; rw [List.length_map, List.length_take, List.length_nil] at this; omega), HS.out]
          apply ByteArray.ext
          simp [itoaB])
        generalize itoaB x = T at *
        go_wp2_with fail
        refine HNU.out.mono ?_
        rintro e w2 ⟨rfl, hb2⟩
        have HB2 := Lib.hid (HB.out.trans (hb2.mono HB.out.size))
        clear hb2 c0 HNU
        go_wp2_with fail
        go_roundg g
        case measure => omega
        case rel => exact ⟨k + 1, S ++ ⟨#[44, 32]⟩ ++ T, by go_num, rfl, by omega, by omega, by rw [ByteArray.size_append, ByteArray.size_append, show (⟨#[44, 32]⟩ : ByteArray).size = 2 from rfl]; omega, HS2, HB2⟩
    · obtain rfl : k = l.length := by omega
      have hdl : decide (l.length < l.length) = false := by simp
      go_wp2_with fail
      go_ret
      exact ⟨ret_str (by rw [HS.out, List.take_length]), HB.out⟩
end Go.Proofs.YtgphigpbgiceiaaDoor
