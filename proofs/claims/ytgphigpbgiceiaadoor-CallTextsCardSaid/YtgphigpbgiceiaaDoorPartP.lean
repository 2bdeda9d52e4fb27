/- What dispatcherref16.parts tells, plainly. -/
import Derived.Test.YtgphigpbgiceiaaDoorParQ
namespace Go.Proofs.YtgphigpbgiceiaaDoor
set_option linter.unusedVariables false
set_option linter.unusedSimpArgs false

/-- A text cut at each comma and blank; p: what the part under way holds. -/
def cutR : List UInt8 → List UInt8 → List (List UInt8)
  | p, [] => [p]
  | p, [b] => [p ++ [b]]
  | p, b :: c :: r => if b = 44 ∧ c = 32 then p :: cutR [] r else cutR (p ++ [b]) (c :: r)
theorem cutR_skip (p r : List UInt8) (b : UInt8) (h : ¬ (b = 44 ∧ r[0]? = some 32)) : cutR p (b :: r) = cutR (p ++ [b]) r := by
  cases r with
  | nil => rfl
  | cons c r =>
    rw [cutR, if_neg]
    rintro ⟨h1, h2⟩
    exact h ⟨h1, by rw [h2]; rfl⟩
theorem cutR_cut (p r : List UInt8) : cutR p (44 :: 32 :: r) = p :: cutR [] r := by
  rw [cutR, if_pos ⟨rfl, rfl⟩]
theorem cutR_join : ∀ (xs : List (List UInt8)) (x p : List UInt8), (∀ y ∈ x :: xs, ∀ b ∈ y, b ≠ 44) → cutR p (x ++ Lib.joinTail [44, 32] xs) = (p ++ x) :: xs := by
  intro xs
  induction xs with
  | nil =>
    intro x
    induction x with
    | nil => intro p _; simp [Lib.joinTail, cutR]
    | cons b x ih =>
      intro p h
      have hb := h (b :: x) (by simp) b (by simp)
      have h2 := ih (p ++ [b]) (fun y hy c hc => by
        rw [List.mem_singleton.1 hy] at hc
        exact h (b :: x) (by simp) c (List.mem_cons_of_mem _ hc))
      rw [List.cons_append, cutR_skip _ _ _ (fun e => hb e.1), h2]
      simp
  | cons y ys ihx =>
    intro x
    induction x with
    | nil =>
      intro p h
      have h2 := ihx y [] (fun z hz => h z (List.mem_cons_of_mem _ hz))
      rw [joinTail_cons, List.nil_append]
      show cutR p (44 :: 32 :: (y ++ Lib.joinTail [44, 32] ys)) = _
      rw [cutR_cut, h2]
      simp
    | cons b x ih =>
      intro p h
      have hb := h (b :: x) (by simp) b (by simp)
      have h2 := ih (p ++ [b]) (fun z hz c hc => by
        rcases List.mem_cons.1 hz with rfl | hz
        · exact h (b :: z) (by simp) c (List.mem_cons_of_mem _ hc)
        · exact h z (List.mem_cons_of_mem _ hz) c hc)
      rw [List.cons_append, cutR_skip _ _ _ (fun e => hb e.1), h2]
      simp
/-- What parts tells: none, or the word and the words between the brackets. -/
def partsF (s : List UInt8) : Option (List UInt8 × List (List UInt8)) :=
  if s.length ≤ (s.takeWhile (· != 40)).length + 1 ∨ s.getLast? ≠ some 41 then none else some (s.takeWhile (· != 40), cutR [] ((s.drop ((s.takeWhile (· != 40)).length + 1)).dropLast))
theorem takeWhile_stop (l : List UInt8) : ∀ k, k ≤ l.length → (∀ j (h : j < l.length), j < k → l[j] ≠ 40) → (∀ h : k < l.length, l[k] = 40) → l.takeWhile (· != 40) = l.take k := by
  induction l with
  | nil => intro k _ _ _; simp
  | cons b l ih =>
    intro k hk h1 h2
    cases k with
    | zero =>
      have hb := h2 (by simp)
      rw [List.getElem_cons_zero] at hb
      rw [hb]
      rfl
    | succ k =>
      have hb := h1 0 (by simp) (by omega)
      rw [List.getElem_cons_zero] at hb
      have h3 := ih k (by simpa using hk) (fun j h hj => h1 (j + 1) (by simpa using h) (by omega)) (fun h => h2 (by simpa using h))
      rw [List.takeWhile_cons, if_pos (by simpa using hb), h3]
      rfl
theorem partsF_text (c : Cl) (hc : c.Ok) (h : textB c = true) : partsF (clText c ((usesF c.kind).getD [])) = some (wordK c.kind, pieces c ((usesF c.kind).getD [])) := by
  obtain ⟨hs, ht, ho, h8⟩ := textB_parts h
  obtain ⟨hn0, hk1, hk22⟩ := uses_some hs
  obtain ⟨hw, hw40⟩ := word_call c.kind hk1 hk22
  have hne := clNums_ne hc h
  rw [clText_pieces c _ hne]
  have hp : pieces c ((usesF c.kind).getD []) ≠ [] := by
    unfold pieces
    simp [hne]
  have hcm : ∀ y ∈ pieces c ((usesF c.kind).getD []), ∀ b ∈ y, b ≠ 44 := by
    intro y hy
    unfold pieces at hy
    rcases List.mem_append.1 hy with hy | hy
    · obtain ⟨n, _, rfl⟩ := List.mem_map.1 hy
      exact itoa_comma n
    · split at hy
      · rw [List.mem_singleton.1 hy]
        exact (red_read c.op hc.op.1 ho).2.1
      · simp at hy
  generalize pieces c ((usesF c.kind).getD []) = ps at *
  generalize wordK c.kind = W at *
  have htw : (W ++ ([40] ++ (Lib.join ps [44, 32] ++ [41]))).takeWhile (· != 40) = W := by
    rw [List.takeWhile_append_of_pos (fun b hb => by simpa using hw40 b hb)]
    simp
  unfold partsF
  rw [htw, if_neg]
  · obtain ⟨x, xs, rfl⟩ : ∃ x xs, ps = x :: xs := by
      cases ps with
      | nil => exact absurd rfl hp
      | cons x xs => exact ⟨x, xs, rfl⟩
    have hd : (W ++ ([40] ++ (Lib.join (x :: xs) [44, 32] ++ [41]))).drop (W.length + 1) = Lib.join (x :: xs) [44, 32] ++ [41] := by
      rw [← List.drop_drop, List.drop_left]
      rfl
    rw [hd, List.dropLast_concat, Lib.join_cons, cutR_join xs x [] hcm]
    rfl
  · rintro (h1 | h1)
    · simp at h1
    · apply h1
      have e : W ++ ([40] ++ (Lib.join ps [44, 32] ++ [41])) = (W ++ [40] ++ Lib.join ps [44, 32]) ++ [41] := by simp
      rw [e, List.getLast?_concat]
end Go.Proofs.YtgphigpbgiceiaaDoor
