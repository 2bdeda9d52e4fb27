/- Plain words: a word of a text, followed by a blank or by nothing, is the same word. -/
import Derived.Test.YtjfoinikdifgmaaDoorRefLaws
namespace Go.Proofs.YtjfoinikdifgmaaDoor
set_option linter.unusedVariables false
set_option linter.unusedSimpArgs false

/-- What may follow a word: nothing, or a blank. -/
def Gap1 (y : List UInt8) : Prop := y = [] ∨ ∃ c r, y = c :: r ∧ isBlank (c.toNat : Int) = true
theorem blank_named {c : UInt8} (h : isBlank (c.toNat : Int) = true) : isNamed (c.toNat : Int) = false ∧ isDigit (c.toNat : Int) = false := by
  unfold isBlank at h
  unfold isNamed isLetter isDigit
  simp at h ⊢
  omega
theorem lead_whole {p : Int → Bool} {x y : List UInt8} (hx : lead p x = x.length) (hy : y = [] ∨ ∃ c r, y = c :: r ∧ p (c.toNat : Int) = false) : lead p (x ++ y) = x.length := by
  rcases hy with rfl | ⟨c, r, rfl, hc⟩
  · rw [List.append_nil, hx]
  · refine lead_stop (by simp) (fun j hj => ?_) ?_
    · rw [List.getElem_append_left hj]
      exact lead_in hj (by omega)
    · simpa using hc
theorem head_append {x y : List UInt8} (h : x ≠ []) : (x ++ y).head? = x.head? := by
  obtain ⟨c, r, rfl⟩ := List.exists_cons_of_ne_nil h
  rfl
theorem signs_blank : ∀ g ∈ scanSigns, (g.data.toList.all fun c => !isBlank (c.toNat : Int)) = true := by decide
theorem end_whole {l : List UInt8} (h0 : l ≠ []) (hk : (ofTok (l.take (endLen l))).kind ≠ 0) (y : List UInt8) (hy : Gap1 y) : endLen (l.take (endLen l) ++ y) = endLen l := by
  have hen := endLen_bd h0
  have hxl : (l.take (endLen l)).length = endLen l := by rw [List.length_take]; omega
  have hx0 : l.take (endLen l) ≠ [] := by intro e; rw [e] at hxl; simp at hxl; omega
  have hhd : (l.take (endLen l) ++ y).head? = l.head? := by rw [head_append hx0, head_take hen.1]
  have hyn : ∀ p : Int → Bool, (∀ c : UInt8, isBlank (c.toNat : Int) = true → p (c.toNat : Int) = false) → (y = [] ∨ ∃ c r, y = c :: r ∧ p (c.toNat : Int) = false) := fun p hp => by
    rcases hy with h | ⟨c, r, h, hc⟩
    · exact .inl h
    · exact .inr ⟨c, r, h, hp c hc⟩
  have hl2 : headLetter (l.take (endLen l) ++ y) = headLetter l := by unfold headLetter; rw [hhd]
  cases hl : headLetter l with
  | true =>
    have he : endLen l = lead isNamed l := by unfold endLen; rw [if_pos hl]
    have hw : lead isNamed (l.take (endLen l)) = (l.take (endLen l)).length := by rw [hxl, he, lead_take]
    have := lead_whole hw (hyn isNamed fun c h => (blank_named h).1)
    rw [hxl] at this
    rw [show endLen (l.take (endLen l) ++ y) = lead isNamed (l.take (endLen l) ++ y) by
      rw [endLen, if_pos (by rw [hl2, hl])]]
    exact this
  | false =>
    cases hd : (l.head?.any fun c => isDigit (c.toNat : Int)) with
    | true =>
      have he : endLen l = lead isDigit l := by unfold endLen; rw [hl, if_neg (by decide), if_pos hd]
      have hw : lead isDigit (l.take (endLen l)) = (l.take (endLen l)).length := by rw [hxl, he, lead_take]
      have := lead_whole hw (hyn isDigit fun c h => (blank_named h).2)
      rw [hxl] at this
      rw [show endLen (l.take (endLen l) ++ y) = lead isDigit (l.take (endLen l) ++ y) by
        rw [endLen, hl2, hl, if_neg (by decide), hhd, if_pos hd]]
      exact this
    | false =>
      have hs : endLen l = if 1 < l.length ∧ isSign (bytesOf (l.take 2)) = true then 2 else 1 := by unfold endLen; rw [hl, if_neg (by decide), hd, if_neg (by decide)]
      have hs2 : endLen (l.take (endLen l) ++ y) = if 1 < (l.take (endLen l) ++ y).length ∧ isSign (bytesOf ((l.take (endLen l) ++ y).take 2)) = true then 2 else 1 := by
        rw [endLen, hl2, hl, if_neg (by decide), hhd, hd, if_neg (by decide)]
      rw [hs2]
      by_cases h2 : 1 < l.length ∧ isSign (bytesOf (l.take 2)) = true
      · rw [if_pos h2] at hs
        rw [hs] at hxl ⊢
        rw [if_pos]
        refine ⟨by rw [List.length_append]; omega, ?_⟩
        rw [List.take_append_of_le_length (by omega), List.take_take]
        exact h2.2
      · rw [if_neg h2] at hs
        rw [hs] at hxl ⊢
        rw [if_neg]
        rintro ⟨h3, h4⟩
        rcases hy with rfl | ⟨c, r, rfl, hc⟩
        · rw [List.append_nil] at h3; omega
        · have hb := signs_blank _ (isSign_iff.1 h4)
          rw [bytesOf_data, List.all_eq_true] at hb
          have hm : c ∈ (l.take 1 ++ c :: r).take 2 := by
            rw [List.take_append, hxl]
            simp
          have := hb c hm
          rw [hc] at this
          exact absurd this (by decide)

/-- The bytes of a word that stands at a text's head. -/
structure WordAt (x : List UInt8) : Prop where
  kind : (ofTok x).kind ≠ 0
  pos : 0 < x.length
  whole : ∀ y, Gap1 y → endLen (x ++ y) = x.length
  head : ∃ c r, x = c :: r ∧ c.toNat ≠ 10 ∧ ¬ (c.toNat = 32 ∨ c.toNat = 9 ∨ c.toNat = 13) ∧ ¬ c.toNat = 35
theorem wordAt_of {c : UInt8} {r : List UInt8} (h10 : ¬ c.toNat = 10) (hb : ¬ (c.toNat = 32 ∨ c.toNat = 9 ∨ c.toNat = 13)) (h35 : ¬ c.toNat = 35) (hk : (ofTok ((c :: r).take (endLen (c :: r)))).kind ≠ 0) : WordAt ((c :: r).take (endLen (c :: r))) := by
  have hne : (c :: r) ≠ [] := by simp
  have hen := endLen_bd hne
  have hxl : ((c :: r).take (endLen (c :: r))).length = endLen (c :: r) := by rw [List.length_take]; omega
  refine ⟨hk, by omega, fun y hy => by rw [end_whole hne hk y hy, hxl], ?_⟩
  obtain ⟨n, hn⟩ : ∃ n, endLen (c :: r) = n + 1 := ⟨endLen (c :: r) - 1, by omega⟩
  rw [hn, List.take_succ_cons]
  exact ⟨c, _, rfl, h10, hb, h35⟩
theorem ref_word {x y : List UInt8} (h : WordAt x) (hy : Gap1 y) (f : Nat) (a b : Int) (acc : List Tok) :
    refF (f + 1) (x ++ y) a b acc = refF f y a (b + x.length) (acc ++ [{ ofTok x with line := a, col := b }]) := by
  obtain ⟨c, r, rfl, h10, hb, h35⟩ := h.head
  have hw := h.whole y hy
  have ht : ((c :: r) ++ y).take (endLen ((c :: r) ++ y)) = c :: r := by rw [hw]; simp
  have hd : ((c :: r) ++ y).drop (endLen ((c :: r) ++ y)) = y := by rw [hw]; simp
  rw [List.cons_append] at ht hd hw ⊢
  rw [refF, if_neg h10, if_neg hb, if_neg h35, ht, hd, if_neg h.kind, hw]
theorem refF_words (P : Tok → Prop) (hP : ∀ x a b, WordAt x → P { ofTok x with line := a, col := b }) : ∀ (f : Nat) (l : List UInt8) (a b : Int) (acc : List Tok), (∀ t ∈ acc, P t) → ∀ t ∈ (refF f l a b acc).1, P t
  | 0, l, a, b, acc, h => by rw [refF]; exact h
  | f + 1, [], a, b, acc, h => by rw [refF]; exact h
  | f + 1, c :: r, a, b, acc, h => by
    rw [refF]
    split
    · exact refF_words P hP f _ _ _ _ h
    · rename_i h10
      split
      · exact refF_words P hP f _ _ _ _ h
      · rename_i hb
        split
        · exact refF_words P hP f _ _ _ _ h
        · rename_i h35
          split
          · intro t ht; cases ht
          · rename_i hk
            refine refF_words P hP f _ _ _ _ (fun t ht => ?_)
            rcases List.mem_append.1 ht with ht | ht
            · exact h t ht
            · obtain rfl := List.mem_singleton.1 ht
              exact hP _ _ _ (wordAt_of h10 hb h35 hk)
/-- Each word that is scanned is of the bytes of a word. -/
theorem scan_words {l : List UInt8} : ∀ t ∈ (scanOf l).1, ∃ x a b, WordAt x ∧ t = { ofTok x with line := a, col := b } := by
  rw [scan_is_ref]
  unfold refOf
  split
  · intro t ht; cases ht
  · exact refF_words _ (fun x a b h => ⟨x, a, b, h, rfl⟩) _ _ _ _ _ (by intro t ht; cases ht)
end Go.Proofs.YtjfoinikdifgmaaDoor
