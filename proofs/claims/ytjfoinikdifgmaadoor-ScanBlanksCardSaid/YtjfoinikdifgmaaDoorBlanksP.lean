/- Plain words: words with blanks and remarks between them are the same words; what stands behind a byte 10 changes nothing of the words ahead. -/
import Derived.Test.YtjfoinikdifgmaaDoorBackR
namespace Go.Proofs.YtjfoinikdifgmaaDoor
set_option linter.unusedVariables false
set_option linter.unusedSimpArgs false

def blk : Nat → List UInt8
  | 0 => [32]
  | 1 => [10]
  | 2 => [9, 32, 13]
  | 3 => [32, 35, 32, 97, 32, 49, 32, 36, 32, 38, 10]
  | 4 => [10, 10, 35, 10]
  | _ => [32, 32]
theorem blk_len : ∀ k, (blk k).length ≤ 11
  | 0 => by decide
  | 1 => by decide
  | 2 => by decide
  | 3 => by decide
  | 4 => by decide
  | _ + 5 => by show 2 ≤ 11; decide
theorem blk_gap (k : Nat) (y : List UInt8) : Gap1 (blk k ++ y) := by
  have h : ∃ c r, blk k = c :: r ∧ isBlank (c.toNat : Int) = true := by
    match k with
    | 0 => exact ⟨_, _, rfl, by decide⟩
    | 1 => exact ⟨_, _, rfl, by decide⟩
    | 2 => exact ⟨_, _, rfl, by decide⟩
    | 3 => exact ⟨_, _, rfl, by decide⟩
    | 4 => exact ⟨_, _, rfl, by decide⟩
    | _ + 5 => exact ⟨_, _, rfl, by decide⟩
  obtain ⟨c, r, h1, h2⟩ := h
  exact .inr ⟨c, r ++ y, by rw [h1]; rfl, h2⟩
theorem ref_nl (f : Nat) (y : List UInt8) (a b : Int) (acc : List Tok) : refF (f + 1) (10 :: y) a b acc = refF f y (a + 1) 1 acc := by
  rw [refF, if_pos (by decide)]
theorem ref_sp (c : UInt8) (hc : c = 32 ∨ c = 9 ∨ c = 13) (f : Nat) (y : List UInt8) (a b : Int) (acc : List Tok) : refF (f + 1) (c :: y) a b acc = refF f y a (b + 1) acc := by
  rcases hc with rfl | rfl | rfl <;> rw [refF, if_neg (by decide), if_pos (by decide)]
theorem ref_hash (f : Nat) (y : List UInt8) (a b : Int) (acc : List Tok) : refF (f + 1) (35 :: y) a b acc = refF f ((35 :: y).drop (lead notNl (35 :: y))) a (b + lead notNl (35 :: y)) acc := by
  rw [refF, if_neg (by decide), if_neg (by decide), if_pos (by decide)]
theorem blk_pass (k : Nat) : ∃ n, n ≤ (blk k).length ∧ ∀ (y : List UInt8) (a b : Int), ∃ a' b', ∀ (f : Nat) (acc : List Tok), refF (f + n) (blk k ++ y) a b acc = refF f y a' b' acc := by
  match k with
  | 0 => exact ⟨1, by decide, fun y a b => ⟨_, _, fun f acc => ref_sp 32 (by decide) f y a b acc⟩⟩
  | 1 => exact ⟨1, by decide, fun y a b => ⟨_, _, fun f acc => ref_nl f y a b acc⟩⟩
  | 2 => exact ⟨3, by decide, fun y a b => ⟨_, _, fun f acc => ((ref_sp 9 (by decide) _ _ _ _ _).trans (ref_sp 32 (by decide) _ _ _ _ _)).trans (ref_sp 13 (by decide) _ _ _ _ _)⟩⟩
  | 3 =>
    refine ⟨3, by decide, fun y a b => ⟨a + 1, 1, fun f acc => ?_⟩⟩
    have h1 : lead notNl (35 :: 32 :: 97 :: 32 :: 49 :: 32 :: 36 :: 32 :: 38 :: 10 :: y) = 9 := by
      rw [lead_cons_true (by decide), lead_cons_true (by decide), lead_cons_true (by decide), lead_cons_true (by decide), lead_cons_true (by decide), lead_cons_true (by decide), lead_cons_true (by decide), lead_cons_true (by decide), lead_cons_true (by decide), lead_cons_false (by decide)]
    have h2 := ref_hash (f + 1) (32 :: 97 :: 32 :: 49 :: 32 :: 36 :: 32 :: 38 :: 10 :: y) a (b + 1) acc
    rw [h1] at h2
    exact ((ref_sp 32 (by decide) _ _ _ _ _).trans h2).trans (ref_nl f y _ _ acc)
  | 4 =>
    refine ⟨4, by decide, fun y a b => ⟨a + 1 + 1 + 1, 1, fun f acc => ?_⟩⟩
    have h1 : lead notNl (35 :: 10 :: y) = 1 := by
      rw [lead_cons_true (by decide), lead_cons_false (by decide)]
    have h2 := ref_hash (f + 1) (10 :: y) (a + 1 + 1) 1 acc
    rw [h1] at h2
    exact (((ref_nl _ _ _ _ _).trans (ref_nl _ _ _ _ _)).trans h2).trans (ref_nl f y _ _ acc)
  | _ + 5 => exact ⟨2, by show 2 ≤ 2; decide, fun y a b => ⟨_, _, fun f acc => (ref_sp 32 (by decide) _ _ _ _ _).trans (ref_sp 32 (by decide) _ _ _ _ _)⟩⟩
/-- Words with something between. -/
def weave (ch : Nat → Nat) : Nat → List (List UInt8) → List UInt8
  | _, [] => []
  | i, x :: r => x ++ (blk (ch i) ++ weave ch (i + 1) r)
theorem weave_snoc (ch : Nat → Nat) : ∀ (xs : List (List UInt8)) (i : Nat) (x : List UInt8), weave ch i (xs ++ [x]) = weave ch i xs ++ x ++ blk (ch (i + xs.length))
  | [], i, x => by simp [weave]
  | y :: r, i, x => by
    have ih := weave_snoc ch r (i + 1) x
    simp only [List.cons_append, weave, ih, List.append_assoc, List.length_cons]
    rw [show i + 1 + r.length = i + (r.length + 1) by omega]
theorem weave_len (ch : Nat → Nat) : ∀ (xs : List (List UInt8)) (i : Nat), (weave ch i xs).length ≤ (xs.map List.length).sum + 11 * xs.length
  | [], i => by simp [weave]
  | x :: r, i => by
    have ih := weave_len ch r (i + 1)
    have := blk_len (ch i)
    simp only [weave, List.length_append, List.map_cons, List.sum_cons, List.length_cons]
    omega
theorem ref_weave (ch : Nat → Nat) {l : List Tok} {xs : List (List UInt8)} (h : OfBytes l xs) : ∀ (i f : Nat) (a b : Int) (acc : List Tok), (weave ch i xs).length < f → ∃ L, refF f (weave ch i xs) a b acc = (acc ++ L, 0, 0, 0) ∧ sameToks false l L = true := by
  induction h with
  | nil =>
    intro i f a b acc hf
    obtain ⟨f, rfl⟩ : ∃ g, f = g + 1 := ⟨f - 1, by omega⟩
    exact ⟨[], by rw [weave, refF, List.append_nil], rfl⟩
  | @cons x a0 b0 l xs hx r ih =>
    intro i f a b acc hf
    obtain ⟨n, hn, hp⟩ := blk_pass (ch i)
    have hpos := hx.pos
    simp only [weave, List.length_append] at hf
    obtain ⟨f, rfl⟩ : ∃ g, f = g + n + 1 := ⟨f - n - 1, by omega⟩
    obtain ⟨a', b', hq⟩ := hp (weave ch (i + 1) xs) a (b + x.length)
    obtain ⟨L, hL, hs⟩ := ih (i + 1) f a' b' (acc ++ [{ ofTok x with line := a, col := b }]) (by omega)
    refine ⟨{ ofTok x with line := a, col := b } :: L, ?_, ?_⟩
    · rw [weave, ref_word hx (blk_gap _ _), hq, hL, List.append_assoc]
      rfl
    · rw [sameToks, hs]
      unfold tokSame
      simp
theorem lead_before {p : Int → Bool} {c : UInt8} (hc : p (c.toNat : Int) = false) (y : List UInt8) : ∀ x : List UInt8, lead p (x ++ c :: y) = lead p x
  | [] => by rw [List.nil_append, lead_cons_false hc]; rfl
  | d :: r => by
    rw [List.cons_append]
    cases hd : p (d.toNat : Int) with
    | true => rw [lead_cons_true hd, lead_cons_true hd, lead_before hc y r]
    | false => rw [lead_cons_false hd, lead_cons_false hd]
theorem head_append_ne {x : List UInt8} (h : x ≠ []) (y : List UInt8) : (x ++ y).head? = x.head? := by
  cases x with
  | nil => exact absurd rfl h
  | cons c r => rfl
theorem end_before {x : List UInt8} (h : x ≠ []) (y : List UInt8) : endLen (x ++ 10 :: y) = endLen x := by
  have h1 : lead isNamed (x ++ 10 :: y) = lead isNamed x := lead_before (by decide) y x
  have h2 : lead isDigit (x ++ 10 :: y) = lead isDigit x := lead_before (by decide) y x
  unfold endLen headLetter
  rw [h1, h2, head_append_ne h]
  split
  · rfl
  · split
    · rfl
    · by_cases hl : 1 < x.length
      · rw [List.take_append_of_le_length (by omega)]
        have : 1 < (x ++ 10 :: y).length := by rw [List.length_append]; omega
        simp only [hl, this, true_and]
      · rw [if_neg (fun hh : 1 < x.length ∧ _ => hl hh.1), if_neg]
        rintro ⟨h3, h4⟩
        have hb := signs_blank _ (isSign_iff.1 h4)
        rw [bytesOf_data, List.all_eq_true] at hb
        cases x with
        | nil => exact h rfl
        | cons c r =>
          cases r with
          | cons d r => simp at hl
          | nil =>
            have := hb 10 (by simp)
            exact absurd this (by decide)
/-- What stands behind a byte 10. -/
theorem ref_more : ∀ (f : Nat) (x : List UInt8) (a b : Int) (acc T : List Tok), x.length < f → refF f x a b acc = (T, 0, 0, 0) → ∀ (y : List UInt8) (F : Nat), x.length + 1 + y.length < F →
    ∃ (a' : Int) (F' : Nat), a ≤ a' ∧ y.length < F' ∧ refF F (x ++ 10 :: y) a b acc = refF F' y (a' + 1) 1 T
  | 0, x, a, b, acc, T, h, _, y, F, hF => by omega
  | f + 1, [], a, b, acc, T, h, hr, y, F, hF => by
    rw [refF] at hr
    injection hr with hr _
    subst hr
    obtain ⟨F, rfl⟩ : ∃ G, F = G + 1 := ⟨F - 1, by omega⟩
    exact ⟨a, F, Int.le_refl _, by simp at hF; omega, ref_nl F y a b acc⟩
  | f + 1, c :: r, a, b, acc, T, h, hr, y, F, hF => by
    obtain ⟨F, rfl⟩ : ∃ G, F = G + 1 := ⟨F - 1, by omega⟩
    simp only [List.length_cons] at h hF
    rw [refF] at hr
    rw [List.cons_append, refF]
    split at hr
    · rename_i h10
      rw [if_pos h10]
      obtain ⟨a', F', h1, h2, h3⟩ := ref_more f r (a + 1) 1 acc T (by omega) hr y F (by omega)
      exact ⟨a', F', by omega, h2, h3⟩
    · rename_i h10
      rw [if_neg h10]
      split at hr
      · rename_i hb
        rw [if_pos hb]
        exact ref_more f r a (b + 1) acc T (by omega) hr y F (by omega)
      · rename_i hb
        rw [if_neg hb]
        split at hr
        · rename_i h35
          rw [if_pos h35]
          have hl : lead notNl (c :: (r ++ 10 :: y)) = lead notNl (c :: r) := lead_before (by decide) y (c :: r)
          have hle := lead_le notNl (c :: r)
          have hpos : 0 < lead notNl (c :: r) := by
            rw [lead_cons_true (by unfold notNl; rw [h35]; decide)]
            omega
          rw [hl, ← List.cons_append, List.drop_append_of_le_length hle]
          have hd : ((c :: r).drop (lead notNl (c :: r))).length = (c :: r).length - lead notNl (c :: r) := List.length_drop
          simp only [List.length_cons] at hd hle
          exact ref_more f _ a _ acc T (by omega) hr y F (by omega)
        · rename_i h35
          rw [if_neg h35]
          split at hr
          · injection hr with _ hr
            injection hr with _ hr
            injection hr with _ hr
            exact absurd hr (by decide)
          · rename_i hk
            have he := end_before (x := c :: r) (by simp) y
            have hen := endLen_bd (m := c :: r) (by simp)
            rw [List.cons_append] at he
            have ht : (c :: (r ++ 10 :: y)).take (endLen (c :: r)) = (c :: r).take (endLen (c :: r)) := by
              rw [← List.cons_append, List.take_append_of_le_length hen.2]
            rw [he, ht, if_neg hk, ← List.cons_append, List.drop_append_of_le_length hen.2]
            have hd : ((c :: r).drop (endLen (c :: r))).length = (c :: r).length - endLen (c :: r) := List.length_drop
            simp only [List.length_cons] at hd hen
            exact ref_more f _ a _ _ T (by omega) hr y F (by omega)
theorem sameToks_refl (pl : Bool) : ∀ l : List Tok, sameToks pl l l = true
  | [] => rfl
  | t :: l => by
    rw [sameToks, sameToks_refl pl l]
    unfold tokSame
    simp
/-- ScanBlanks, plainly: what is between words. -/
theorem scan_weave (ch : Nat → Nat) {l : List Tok} {xs : List (List UInt8)} (h : OfBytes l xs) (hs : (weave ch 0 xs).length ≤ 20000) : ∃ L, scanOf (weave ch 0 xs) = (L, 0, 0, 0) ∧ sameToks false l L = true := by
  obtain ⟨L, h1, h2⟩ := ref_weave ch h 0 ((weave ch 0 xs).length + 1) 1 1 [] (by omega)
  refine ⟨L, ?_, h2⟩
  rw [scan_is_ref]
  unfold refOf
  rw [if_neg (by omega), h1]
  rfl
/-- ScanBlanks, plainly: what is behind. -/
theorem scan_behind {x y : List UInt8} {T : List Tok} (hx : x.length ≤ 4000) (hy : y.length ≤ 1000) (h : scanOf x = (T, 0, 0, 0)) :
    (∃ a b, scanOf (x ++ 10 :: y) = ([], a, b, 10) ∧ 1 < a) ∨ ∃ L, scanOf (x ++ 10 :: y) = (T ++ L, 0, 0, 0) := by
  rw [scan_is_ref] at h ⊢
  unfold refOf at h ⊢
  have hl : (x ++ 10 :: y).length = x.length + 1 + y.length := by simp; omega
  rw [if_neg (by omega)] at h ⊢
  obtain ⟨a', F', h1, h2, h3⟩ := ref_more _ x 1 1 [] T (by omega) h y ((x ++ 10 :: y).length + 1) (by omega)
  rw [h3]
  rcases refF_res F' y (a' + 1) 1 T (by omega) with ⟨h4, L, h5⟩ | ⟨a2, b2, h4, h5⟩
  · exact .inr ⟨L, by rw [h5, ← h4]⟩
  · exact .inl ⟨a2, b2, h4, by omega⟩
end Go.Proofs.YtjfoinikdifgmaaDoor
