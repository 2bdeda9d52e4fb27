/- A call, trim: its numbers are bounded; how many numbers stand in a text. -/
import Derived.Test.YtgphigpbgiceiaaGreatDoorPk18
import Derived.Test.YtgphigpbgiceiaaGreatDoorRegGuard
import Derived.Test.YtgphigpbgiceiaaGreatDoorClSame
namespace Go.Proofs.YtgphigpbgiceiaaGreatDoor
open Go.RowKit
set_option linter.unusedVariables false
set_option linter.unusedSimpArgs false

theorem pickI_i64 {b : Bool} {n : Int} (h : I64 n) : I64 (pickI b n) := by
  unfold pickI
  split
  · exact h
  · unfold I64; omega
theorem trimF_ok {c : Cl} (h : c.Ok) : (trimF c).Ok := by
  rw [trim_same c h.op]
  unfold rtrim
  split
  · constructor <;> simp [zeroCl, I64]
  · refine ⟨h.kind, pickI_i64 h.comm, pickI_i64 h.peer, pickI_i64 h.tag, pickI_i64 h.value, pickI_i64 h.size, pickI_i64 h.root, ?_, ?_, pickI_i64 h.color, pickI_i64 h.key⟩
    · simp only [pickI]
      split
      · exact h.op
      · omega
    · simp only [pickL]
      split
      · exact h.reqs
      · simp
theorem trimF_len {c : Cl} (h : 0 ≤ c.op ∧ c.op ≤ 255) : (trimF c).reqs.length ≤ c.reqs.length := by
  rw [trim_same c h]
  unfold rtrim
  split
  · simp [zeroCl]
  · simp only [pickL]
    split
    · exact Nat.le_refl _
    · simp
theorem getF_ok {c : Cl} (h : c.Ok) (f : Nat) : I64 (getF c f) := by
  unfold getF
  split
  · exact h.comm
  · exact h.peer
  · exact h.tag
  · exact h.value
  · exact h.size
  · exact h.root
  · exact h.color
  · exact h.key
  · have := h.op; unfold I64; omega
  · unfold I64; omega
theorem clNums_ok {c : Cl} (h : c.Ok) (ul : List Int) : ∀ n ∈ clNums c ul, I64 n := by
  intro n hn
  unfold clNums at hn
  rw [List.mem_flatMap] at hn
  obtain ⟨f, _, hf⟩ := hn
  split at hf
  · exact h.reqs n hf
  · split at hf
    · simp at hf
    · rw [List.mem_singleton.1 hf]
      exact getF_ok h _
theorem uses_shape (k : Int) : (∀ f ∈ (usesF k).getD [], f ≠ 8) ∨ (usesF k).getD [] = [8] := by
  unfold usesF
  repeat (split; · (first | (right; rfl) | (left; simp; done)))
  left
  simp
theorem clNums_few (c : Cl) : ∀ m : List Int, (∀ f ∈ m, f ≠ 8) → (clNums c m).length ≤ m.length
  | [], _ => Nat.le_refl _
  | f :: m, hm => by
    have h1 := clNums_few c m (fun g hg => hm g (List.mem_cons_of_mem _ hg))
    have h2 := hm f (by simp)
    unfold clNums at h1 ⊢
    rw [List.flatMap_cons, if_neg h2, List.length_append]
    split
    · simp only [List.length_nil, List.length_cons]; omega
    · simp only [List.length_nil, List.length_cons]; omega
theorem clNums_len (c : Cl) (k : Nat) (h : c.reqs.length ≤ 60) : (clNums c (((usesF c.kind).getD []).take k)).length ≤ 60 := by
  have h5 := usesF_len c.kind
  rcases uses_shape c.kind with hs | hs
  · have h1 := clNums_few c (((usesF c.kind).getD []).take k) (fun f hf => hs f (List.mem_of_mem_take hf))
    rw [List.length_take] at h1
    omega
  · rw [hs]
    cases k with
    | zero => simp [clNums]
    | succ k =>
      rw [List.take_succ_cons, List.take_nil]
      unfold clNums
      rw [List.flatMap_cons, List.flatMap_nil, if_pos rfl, List.append_nil]
      exact h
theorem words_len (j : Nat) : (clWords.getD j []).length ≤ 20 := by
  have h : ∀ w ∈ clWords, w.length ≤ 20 := by decide
  rw [List.getD_eq_getElem?_getD]
  cases hj : clWords[j]? with
  | none => simp
  | some w => exact h w (List.mem_of_getElem? hj)
theorem reds_len (j : Nat) : (clReds.getD j []).length ≤ 20 := by
  have h : ∀ w ∈ clReds, w.length ≤ 20 := by decide
  rw [List.getD_eq_getElem?_getD]
  cases hj : clReds[j]? with
  | none => simp
  | some w => exact h w (List.mem_of_getElem? hj)
theorem joinTail_max (sep : List UInt8) (M : Nat) : ∀ xs : List (List UInt8), (∀ x ∈ xs, x.length ≤ M) → (Lib.joinTail sep xs).length ≤ xs.length * (M + sep.length)
  | [], _ => by simp [Lib.joinTail]
  | x :: xs, h => by
    have h1 := joinTail_max sep M xs (fun y hy => h y (List.mem_cons_of_mem _ hy))
    have h2 := h x (by simp)
    have e : Lib.joinTail sep (x :: xs) = (sep ++ x) ++ Lib.joinTail sep xs := rfl
    rw [e, List.length_append, List.length_append, List.length_cons, Nat.succ_mul]
    omega
theorem join_max (sep : List UInt8) (M : Nat) (xs : List (List UInt8)) (h : ∀ x ∈ xs, x.length ≤ M) : (Lib.join xs sep).length ≤ xs.length * (M + sep.length) := by
  cases xs with
  | nil => simp [Lib.join]
  | cons x xs =>
    have h1 := joinTail_max sep M xs (fun y hy => h y (List.mem_cons_of_mem _ hy))
    have h2 := h x (by simp)
    rw [Lib.join_cons, List.length_append, List.length_cons, Nat.succ_mul]
    omega
theorem nums_len (ns : List Int) (h : ∀ n ∈ ns, I64 n) (hl : ns.length ≤ 60) : (Lib.join (ns.map Lib.itoa) [44, 32]).length ≤ 1500 := by
  have h1 := join_max [44, 32] 21 (ns.map Lib.itoa) (fun x hx => by
    obtain ⟨n, hn, rfl⟩ := List.mem_map.1 hx
    have := h n hn
    have := Lib.itoa_length_le n this.1 this.2
    omega)
  rw [List.length_map] at h1
  exact Nat.le_trans h1 (Nat.le_trans (Nat.mul_le_mul hl (by decide : 21 + ([44, 32] : List UInt8).length ≤ 23)) (by decide))
theorem uses_both (k : Int) : (usesS k = [] ↔ (usesF k).isSome = false) ∧ ((usesS k).contains 108 = true ↔ ((usesF k).getD [])[0]? = some 8) := by
  unfold usesS usesF
  constructor
  · repeat' split
    all_goals simp
  · repeat' split
    all_goals simp
theorem textB_parts {c : Cl} (h : textB c = true) : (usesF c.kind).isSome = true ∧ c = trimF c ∧ c.op ≤ 2 ∧ (((usesF c.kind).getD [])[0]? = some 8 → listedB c = true) := by
  unfold textB at h
  simp only [Bool.and_eq_true, decide_eq_true_iff, Bool.or_eq_true, Bool.not_eq_true', beq_eq_false_iff_ne] at h
  obtain ⟨⟨⟨h1, h2⟩, h3⟩, h4⟩ := h
  exact ⟨h1, (Cl.same_iff _ _).1 h2, h3, fun h8 => h4.elim (fun hn => absurd h8 hn) id⟩
theorem reqs_few {c : Cl} (hop : 0 ≤ c.op ∧ c.op ≤ 255) (h : textB c = true) : c.reqs.length ≤ 60 := by
  obtain ⟨h1, h2, h3, h4⟩ := textB_parts h
  cases hc : (usesS c.kind).contains 108 with
  | true =>
    have hl := h4 ((uses_both c.kind).2.1 hc)
    unfold listedB at hl
    split at hl
    · simp at hl; omega
    · simp at hl; omega
  | false =>
    have : c.reqs = [] := by
      rw [h2, trim_same c hop]
      unfold rtrim
      split
      · rfl
      · simp only [pickL, hc]
        rfl
    rw [this]
    simp
/-- A call that is trim, in a row of its own. -/
def TrimGood (c : Cl) (u : Value) (w : World) : Prop := ∃ B cb, u = .agg (clCells (trimF c) B cb) ∧ IntRow w B (trimF c).reqs
theorem TrimGood.stay (c : Cl) (u : Value) (w w' : World) (hb : Below w.heap.size w w') (h : TrimGood c u w) : TrimGood c u w' := by
  obtain ⟨B, cb, h1, h2⟩ := h
  exact ⟨B, cb, h1, h2.below hb⟩
/-- The texts' tables. -/
structure TextTabs (w : World) : Prop where
  words : ∀ j, j < 22 → w.cell? ⟨0, j, none⟩ = some (.string ⟨(clWords.getD j []).toArray⟩)
  reds : ∀ j, j < 3 → w.cell? ⟨1, j, none⟩ = some (.string ⟨(clReds.getD j []).toArray⟩)
theorem TextTabs.below {w w' : World} (h : TextTabs w) (hb : Below w.heap.size w w') : TextTabs w' := ⟨fun j hj => cell_later hb (h.words j hj), fun j hj => cell_later hb (h.reds j hj)⟩
theorem join_snoc (xs : List (List UInt8)) (x sep : List UInt8) (h : xs ≠ []) : Lib.join (xs ++ [x]) sep = Lib.join xs sep ++ sep ++ x := by
  cases xs with
  | nil => exact absurd rfl h
  | cons y ys =>
    rw [List.cons_append, Lib.join_cons, Lib.join_cons]
    have : Lib.joinTail sep (ys ++ [x]) = Lib.joinTail sep ys ++ (sep ++ x) := by simp [Lib.joinTail]
    rw [this]
    simp
end Go.Proofs.YtgphigpbgiceiaaGreatDoor
