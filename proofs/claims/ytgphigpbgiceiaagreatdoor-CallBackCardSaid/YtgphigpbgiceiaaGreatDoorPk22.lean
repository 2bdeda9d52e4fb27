/- The walks of tree.Call and dispatcherref02.Call: both tell callOf of a word. · What is parsed from a call's text is that call (plain). -/
import Derived.Test.YtgphigpbgiceiaaGreatDoorShelf
import Derived.Test.YtgphigpbgiceiaaGreatDoorPk0
import Derived.WalkKit
import Derived.WalkSpells
import Derived.WalkLawsBesides
import Derived.Lib.Hide
import Derived.Test.YtgphigpbgiceiaaGreatDoorTrimOk
import Derived.Test.YtgphigpbgiceiaaGreatDoorCodeJ
namespace Go.Proofs.YtgphigpbgiceiaaGreatDoor
open Go.RowKit

def callWords : List ByteArray := [
  ⟨#[115, 101, 110, 100]⟩,
  ⟨#[115, 115, 101, 110, 100]⟩,
  ⟨#[98, 115, 101, 110, 100]⟩,
  ⟨#[105, 115, 101, 110, 100]⟩,
  ⟨#[105, 115, 115, 101, 110, 100]⟩,
  ⟨#[114, 101, 99, 118]⟩,
  ⟨#[105, 114, 101, 99, 118]⟩,
  ⟨#[119, 97, 105, 116]⟩,
  ⟨#[119, 97, 105, 116, 97, 108, 108]⟩,
  ⟨#[119, 97, 105, 116, 97, 110, 121]⟩,
  ⟨#[116, 101, 115, 116]⟩,
  ⟨#[116, 101, 115, 116, 97, 110, 121]⟩,
  ⟨#[112, 114, 111, 98, 101]⟩,
  ⟨#[105, 112, 114, 111, 98, 101]⟩,
  ⟨#[98, 97, 114, 114, 105, 101, 114]⟩,
  ⟨#[98, 99, 97, 115, 116]⟩,
  ⟨#[114, 101, 100, 117, 99, 101]⟩,
  ⟨#[97, 108, 108, 114, 101, 100, 117, 99, 101]⟩,
  ⟨#[103, 97, 116, 104, 101, 114]⟩,
  ⟨#[100, 117, 112]⟩,
  ⟨#[115, 112, 108, 105, 116]⟩,
  ⟨#[102, 114, 101, 101]⟩]
theorem callWords_len : callWords.length = 22 := rfl
def callOf (s : ByteArray) : Int := Lib.idxOfS callWords s + 1
theorem idxFromS_bd (x : ByteArray) : ∀ (zs : List ByteArray) (i : Nat), -1 ≤ Lib.idxFromS zs x i ∧ Lib.idxFromS zs x i < i + zs.length
  | [], i => by simp only [Lib.idxFromS, List.length_nil]; omega
  | z :: zs, i => by
    have h := idxFromS_bd x zs (i + 1)
    unfold Lib.idxFromS
    split
    · simp only [List.length_cons]; omega
    · simp only [List.length_cons]; omega
theorem callOf_bd (s : ByteArray) : 0 ≤ callOf s ∧ callOf s ≤ 22 := by
  have h := idxFromS_bd s callWords 0
  rw [callWords_len] at h
  unfold callOf Lib.idxOfS
  omega

set_option maxHeartbeats 1000000 in
set_option maxRecDepth 100000 in
theorem treeCall_any (s : ByteArray) (w : World) (hc : ∀ j, j < 22 → w.cell? ⟨2, j, none⟩ = some (.string (callWords.getD j ByteArray.empty))) :
    Calls Tryz.prog 23 #[.string s] w fun e w' => e = .returned (.int .u8 (callOf s)) ∧ w' = w := by
  have hb := callOf_bd s
  unfold callOf at hb ⊢
  have hI : Calls Tryz.prog 27 #[.slice (some ⟨2, 0, none⟩) 22 22, .string s] w fun e w' => e = .returned (.int .i64 (Lib.idxOfS callWords s)) ∧ w' = w :=
    Tryz.slices_Index_string 2 0 22 22 callWords s w (by decide) (by decide) (fun j hj => by rw [Nat.zero_add]; exact hc j hj)
  clear hc
  generalize Lib.idxOfS callWords s = t at *
  have HI := Lib.hid hI
  clear hI
  go_enter Tryz.func23, Tryz.ntmps23
  go_wp2_with (go_at_call 27; refine HI.out.mono ?_; rintro e w' ⟨rfl, rfl⟩)
  go_ret
  exact ⟨rfl, rfl⟩

theorem words_cell (w : World) (k : Nat) (hk : k < 22) : (w.alloc (.cells (callWords.map Value.string).toArray 9)).cell? ⟨w.heap.size, k, none⟩ = some (.string (callWords.getD k ByteArray.empty)) := by
  have h : k < callWords.length := hk
  rw [World.cell?_alloc_new, List.getElem?_toArray, List.getElem?_map, List.getElem?_eq_getElem h, List.getD_eq_getElem?_getD, List.getElem?_eq_getElem h]
  rfl
theorem callOf_hit (k : Nat) (s : ByteArray) (hk : k < 22) (h : callWords.getD k ByteArray.empty = s) (hne : ∀ j, j < k → callWords.getD j ByteArray.empty ≠ s) : callOf s = k + 1 := by
  have h1 := Lib.idxOfS_hit callWords 22 k s hk (by decide) h hne
  rw [List.take_of_length_le (by decide)] at h1
  unfold callOf
  rw [h1]
theorem callOf_miss (s : ByteArray) (hne : ∀ j, j < 22 → callWords.getD j ByteArray.empty ≠ s) : callOf s = 0 := by
  have h1 := Lib.idxOfS_miss callWords 22 s hne
  rw [List.take_of_length_le (by decide)] at h1
  unfold callOf
  rw [h1]
  rfl

end Go.Proofs.YtgphigpbgiceiaaGreatDoor
namespace Go.Proofs.YtgphigpbgiceiaaGreatDoor
set_option linter.unusedVariables false
set_option linter.unusedSimpArgs false

theorem index_skip (c : UInt8) (t r : List UInt8) : ∀ x : List UInt8, (∀ b ∈ x, b ≠ c) → Lib.index (x ++ r) (c :: t) = if Lib.index r (c :: t) = -1 then -1 else Lib.index r (c :: t) + x.length
  | [], _ => by
    rw [List.nil_append]
    split
    · assumption
    · simp
  | b :: x, h => by
    have ih := index_skip c t r x (fun y hy => h y (List.mem_cons_of_mem _ hy))
    have hb := h b (by simp)
    rw [List.cons_append, Lib.index]
    have hp : (c :: t).isPrefixOf (b :: (x ++ r)) = false := by
      rw [List.isPrefixOf]
      have : (c == b) = false := by rw [beq_eq_false_iff_ne]; exact fun e => hb e.symm
      rw [this]
      rfl
    rw [hp, ih]
    have hge := Lib.index_ge r (c :: t)
    by_cases h1 : Lib.index r (c :: t) = -1
    · simp [h1]
    · have h2 : ¬ (Lib.index r (c :: t) + x.length == -1) = true := by
        rw [beq_iff_eq]
        omega
      simp only [h1, if_false, Bool.false_eq_true]
      rw [if_neg h2]
      simp
      omega
theorem index_at (c : UInt8) (t r : List UInt8) : Lib.index (c :: t ++ r) (c :: t) = 0 := by
  rw [List.cons_append, Lib.index]
  have hp : (c :: t).isPrefixOf (c :: (t ++ r)) = true := by simp [List.isPrefixOf_iff_prefix]
  rw [hp]
  rfl
theorem index_hit16 (c : UInt8) (t x r : List UInt8) (h : ∀ b ∈ x, b ≠ c) : Lib.index (x ++ (c :: t ++ r)) (c :: t) = x.length := by
  rw [index_skip c t _ x h, index_at]
  simp
theorem index_no (c : UInt8) (t x : List UInt8) (h : ∀ b ∈ x, b ≠ c) : Lib.index x (c :: t) = -1 := by
  have h1 := index_skip c t [] x h
  rw [List.append_nil] at h1
  rw [h1]
  rfl
theorem cut_hit16 (c : UInt8) (x r : List UInt8) (h : ∀ b ∈ x, b ≠ c) : Lib.cut (x ++ ([c] ++ r)) [c] = (x, r, true) := by
  unfold Lib.cut
  have h1 := index_hit16 c [] x r h
  have e : x ++ ([c] ++ r) = x ++ (c :: [] ++ r) := rfl
  rw [e, h1, if_pos (by omega)]
  simp
theorem joinTail_cons (sep x : List UInt8) (xs : List (List UInt8)) : Lib.joinTail sep (x :: xs) = sep ++ x ++ Lib.joinTail sep xs := rfl
theorem count_join (c : UInt8) (t : List UInt8) : ∀ (xs : List (List UInt8)) (x : List UInt8) (fuel : Nat), (∀ y ∈ x :: xs, ∀ b ∈ y, b ≠ c) → xs.length < fuel → Lib.countFrom (c :: t) fuel (x ++ Lib.joinTail (c :: t) xs) = xs.length
  | [], x, fuel, h, hf => by
    cases fuel with
    | zero => omega
    | succ n =>
      have e : x ++ Lib.joinTail (c :: t) [] = x := by simp [Lib.joinTail]
      rw [e, Lib.countFrom, index_no c t x (h x (by simp))]
      rfl
  | y :: xs, x, fuel, h, hf => by
    cases fuel with
    | zero => omega
    | succ n =>
      have ih := count_join c t xs y n (fun z hz => h z (List.mem_cons_of_mem _ hz)) (by simpa using hf)
      rw [Lib.countFrom, joinTail_cons, List.append_assoc, index_hit16 c t x _ (h x (by simp))]
      have hn : ¬ (((x.length : Nat) : Int) == -1) = true := by rw [beq_iff_eq]; omega
      rw [if_neg hn]
      have hd : (x ++ (c :: t ++ (y ++ Lib.joinTail (c :: t) xs))).drop ((x.length : Int).toNat + (c :: t).length) = y ++ Lib.joinTail (c :: t) xs := by
        rw [Int.toNat_natCast, ← List.drop_drop, List.drop_left, List.drop_left]
      rw [hd, ih]
      simp
      omega
theorem splitK_join (c : UInt8) (t : List UInt8) : ∀ (xs : List (List UInt8)) (x : List UInt8), (∀ y ∈ x :: xs, ∀ b ∈ y, b ≠ c) → Lib.splitK (c :: t) 0 xs.length (x ++ Lib.joinTail (c :: t) xs) = x :: xs
  | [], x, h => by simp [Lib.splitK, Lib.joinTail]
  | y :: xs, x, h => by
    have ih := splitK_join c t xs y (fun z hz => h z (List.mem_cons_of_mem _ hz))
    rw [List.length_cons, Lib.splitK, joinTail_cons, List.append_assoc, index_hit16 c t x _ (h x (by simp))]
    have hn : ¬ (((x.length : Nat) : Int) == -1) = true := by rw [beq_iff_eq]; omega
    rw [if_neg hn]
    have hd : (x ++ (c :: t ++ (y ++ Lib.joinTail (c :: t) xs))).drop ((x.length : Int).toNat + (c :: t).length) = y ++ Lib.joinTail (c :: t) xs := by
      rw [Int.toNat_natCast, ← List.drop_drop, List.drop_left, List.drop_left]
    rw [hd, ih]
    simp
theorem joinTail_ge (sep : List UInt8) (h : 1 ≤ sep.length) : ∀ xs : List (List UInt8), xs.length ≤ (Lib.joinTail sep xs).length
  | [] => by simp
  | x :: xs => by
    have ih := joinTail_ge sep h xs
    rw [joinTail_cons, List.length_append, List.length_append, List.length_cons]
    omega
theorem split_join16 (x : List UInt8) (xs : List (List UInt8)) (h : ∀ y ∈ x :: xs, ∀ b ∈ y, b ≠ 44) : Lib.split (Lib.join (x :: xs) [44, 32]) [44, 32] = x :: xs := by
  unfold Lib.split Lib.count
  rw [Lib.join_cons, count_join 44 [32] xs x _ h (by
    have := joinTail_ge [44, 32] (by decide) xs
    rw [List.length_append]
    omega)]
  exact splitK_join 44 [32] xs x h
theorem trim_close (b : List UInt8) : Lib.trimSuffix (b ++ [41]) [41] = b := by
  unfold Lib.trimSuffix Lib.hasSuffix
  rw [if_pos (by rw [List.isSuffixOf_iff_suffix]; exact List.suffix_append _ _)]
  simp
end Go.Proofs.YtgphigpbgiceiaaGreatDoor
