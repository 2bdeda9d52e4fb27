/- Plain texts of chapter 05. -/
import Derived.Test.YtgphigpbgiceiaaGreatDoorCodeQ
import Derived.Lib.ItoaLen
namespace Go.Proofs.YtgphigpbgiceiaaGreatDoor
set_option linter.unusedVariables false

def opNames : List ByteArray := [
  ⟨#[]⟩,
  ⟨#[110, 117, 109]⟩,
  ⟨#[103, 101, 116]⟩,
  ⟨#[115, 101, 116]⟩,
  ⟨#[97, 116]⟩,
  ⟨#[112, 117, 116]⟩,
  ⟨#[114, 111, 119]⟩,
  ⟨#[119, 111, 114, 100]⟩,
  ⟨#[110, 101, 103]⟩,
  ⟨#[110, 111, 116]⟩,
  ⟨#[109, 117, 108]⟩,
  ⟨#[100, 105, 118]⟩,
  ⟨#[109, 111, 100]⟩,
  ⟨#[97, 100, 100]⟩,
  ⟨#[115, 117, 98]⟩,
  ⟨#[108, 101, 115, 115]⟩,
  ⟨#[108, 101, 115, 115, 101, 113]⟩,
  ⟨#[109, 111, 114, 101]⟩,
  ⟨#[109, 111, 114, 101, 101, 113]⟩,
  ⟨#[115, 97, 109, 101]⟩,
  ⟨#[111, 116, 104, 101, 114]⟩,
  ⟨#[116, 114, 117, 116, 104]⟩,
  ⟨#[106, 117, 109, 112]⟩,
  ⟨#[122, 101, 114, 111]⟩,
  ⟨#[101, 108, 115, 101]⟩,
  ⟨#[112, 111, 112]⟩,
  ⟨#[100, 117, 112]⟩,
  ⟨#[97, 115, 115, 101, 114, 116]⟩,
  ⟨#[99, 97, 108, 108]⟩,
  ⟨#[115, 116, 111, 112]⟩]
theorem opNames_len : opNames.length = 30 := rfl
def opName (op : Nat) : ByteArray := opNames.getD op ByteArray.empty
theorem opName_size (op : Nat) : (opName op).size ≤ 6 := by
  unfold opName
  rw [List.getD_eq_getElem?_getD]
  match op with
  | 0 | 1 | 2 | 3 | 4 | 5 | 6 | 7 | 8 | 9 | 10 | 11 | 12 | 13 | 14 | 15 | 16 | 17 | 18 | 19 | 20 | 21 | 22 | 23 | 24 | 25 | 26 | 27 | 28 | 29 => decide
  | n + 30 => simp [opNames]
def insText (i : Ins) : List UInt8 := (opName i.op.toNat).data.toList ++ ((if i.n = 0 then [] else 32 :: Lib.itoa i.n) ++ [10])
def arrText (l : List Int) : List UInt8 := l.flatMap fun n => 32 :: Lib.itoa n
def codeText (l : List Ins) : List UInt8 := l.flatMap insText
def headText (v : Int) : List UInt8 := [118, 97, 114, 115, 32] ++ Lib.itoa v ++ [10, 97, 114, 114, 97, 121, 115]
def cpText (p : Cp) : List UInt8 := headText p.vars ++ arrText p.arrays ++ [10] ++ codeText p.code
theorem arrText_take (l : List Int) (k : Nat) (hk : k < l.length) : arrText (l.take (k + 1)) = arrText (l.take k) ++ 32 :: Lib.itoa l[k] := by
  unfold arrText
  rw [List.take_succ_eq_append_getElem hk, List.flatMap_append, List.flatMap_cons, List.flatMap_nil, List.append_nil]
theorem codeText_take (l : List Ins) (k : Nat) (hk : k < l.length) : codeText (l.take (k + 1)) = codeText (l.take k) ++ insText l[k] := by
  unfold codeText
  rw [List.take_succ_eq_append_getElem hk, List.flatMap_append, List.flatMap_cons, List.flatMap_nil, List.append_nil]
theorem arrText_len : ∀ (l : List Int), (∀ n ∈ l, -9223372036854775808 ≤ n ∧ n ≤ 9223372036854775807) → (arrText l).length ≤ 22 * l.length
  | [], _ => by simp [arrText]
  | n :: l, h => by
    have ih := arrText_len l (fun x hx => h x (by simp [hx]))
    have h1 := Lib.itoa_length_le n (h n (by simp)).1 (h n (by simp)).2
    have e : arrText (n :: l) = 32 :: Lib.itoa n ++ arrText l := rfl
    rw [e, List.length_append, List.length_cons, List.length_cons]
    omega
theorem insText_len (i : Ins) (h : i.Ok) : (insText i).length ≤ 29 := by
  have h1 := Lib.itoa_length_le i.n h.2.1 h.2.2
  have h2 := opName_size i.op.toNat
  unfold insText
  split
  all_goals
    simp only [List.length_append, List.length_cons, List.length_nil, Array.length_toList, ByteArray.size_data]
    omega
theorem codeText_len : ∀ (l : List Ins), (∀ i ∈ l, i.Ok) → (codeText l).length ≤ 29 * l.length
  | [], _ => by simp [codeText]
  | i :: l, h => by
    have ih := codeText_len l (fun x hx => h x (by simp [hx]))
    have h1 := insText_len i (h i (by simp))
    have e : codeText (i :: l) = insText i ++ codeText l := rfl
    rw [e, List.length_append, List.length_cons]
    omega
theorem headText_len (v : Int) (h0 : -9223372036854775808 ≤ v) (h1 : v ≤ 9223372036854775807) : (headText v).length ≤ 33 := by
  have h := Lib.itoa_length_le v h0 h1
  unfold headText
  simp only [List.length_append, List.length_cons, List.length_nil]
  omega
theorem fits_op {v a n : Int} {i : Ins} (h : fitsOf v a n i = true) : 1 ≤ i.op ∧ i.op ≤ 29 := by
  unfold fitsOf at h
  by_cases e1 : i.op = 1
  · omega
  rw [if_neg e1] at h
  by_cases e2 : i.op = 2 ∨ i.op = 3
  · omega
  rw [if_neg e2] at h
  by_cases e3 : i.op = 4 ∨ i.op = 5
  · omega
  rw [if_neg e3] at h
  by_cases e4 : i.op = 7
  · omega
  rw [if_neg e4] at h
  by_cases e5 : i.op = 22 ∨ i.op = 23 ∨ i.op = 24
  · omega
  rw [if_neg e5] at h
  by_cases e6 : i.op = 28
  · omega
  rw [if_neg e6] at h
  simp only [Bool.and_eq_true, decide_eq_true_eq] at h
  exact h.1
theorem arraysOk_len : ∀ (l : List Int) (c : Int), arraysOk c l = true → c ≤ 1000 → (l.length : Int) ≤ 1000 - c
  | [], c, _, h => by simp; omega
  | x :: l, c, h, h1 => by
    simp only [arraysOk, Bool.and_eq_true, decide_eq_true_eq] at h
    have := arraysOk_len l (c + x) h.2 (by omega)
    simp only [List.length_cons]
    omega
end Go.Proofs.YtgphigpbgiceiaaGreatDoor
