/- The words of a text by package scan are those by definition. -/
import Derived.Test.YtjfoinikdifgmaaDoorRefScan4
namespace Go.Proofs.YtjfoinikdifgmaaDoor

theorem isWord_iff {s : ByteArray} : isWord s = true ↔ s ∈ scanWords := Lib.containsS_iff _ _
theorem isSign_iff {s : ByteArray} : isSign s = true ↔ s ∈ scanSigns := Lib.containsS_iff _ _
theorem words_head : ∀ g ∈ scanWords, (g.data.toList.head?.any fun c => isLetter (c.toNat : Int)) = true := by decide
theorem signs_head : ∀ g ∈ scanSigns, (g.data.toList.head?.any fun c => isLetter (c.toNat : Int)) = false ∧ (g.data.toList.head?.any fun c => isDigit (c.toNat : Int)) = false ∧ (∀ c ∈ g.data.toList, c ≠ 10) := by decide
def signs2 : List ByteArray := scanSigns.take 6
def signs1 : List ByteArray := scanSigns.drop 6
theorem signs_parts : scanSigns = signs2 ++ signs1 := (List.take_append_drop 6 scanSigns).symm
theorem signs2_size : ∀ g ∈ signs2, g.data.toList.length = 2 := by decide
theorem signs1_size : ∀ g ∈ signs1, g.data.toList.length = 1 := by decide

theorem head_take {l : List UInt8} {n : Nat} (h : 0 < n) : (l.take n).head? = l.head? := by
  cases l with
  | nil => simp
  | cons c r =>
    obtain ⟨m, rfl⟩ : ∃ m, n = m + 1 := ⟨n - 1, by omega⟩
    simp
theorem not_word {l : List UInt8} (h : headLetter l = false) : isWord (bytesOf l) = false := by
  cases hw : isWord (bytesOf l) with
  | false => rfl
  | true =>
    have := words_head _ (isWord_iff.1 hw)
    rw [bytesOf_data] at this
    unfold headLetter at h
    rw [h] at this
    exact absurd this (by decide)
theorem not_name {l : List UInt8} (h : headLetter l = false) : isName (bytesOf l) = false := by
  unfold isName
  rw [bytesOf_data]
  unfold headLetter at h
  rw [h]
  simp
theorem not_sign_letter {l : List UInt8} (h : headLetter l = true) : isSign (bytesOf l) = false := by
  cases hw : isSign (bytesOf l) with
  | false => rfl
  | true =>
    have := (signs_head _ (isSign_iff.1 hw)).1
    rw [bytesOf_data] at this
    unfold headLetter at h
    rw [h] at this
    exact absurd this (by decide)
theorem not_sign_digit {l : List UInt8} (h : (l.head?.any fun c => isDigit (c.toNat : Int)) = true) : isSign (bytesOf l) = false := by
  cases hw : isSign (bytesOf l) with
  | false => rfl
  | true =>
    have := (signs_head _ (isSign_iff.1 hw)).2.1
    rw [bytesOf_data] at this
    rw [h] at this
    exact absurd this (by decide)
theorem not_number {l : List UInt8} (h : (l.head?.any fun c => isDigit (c.toNat : Int)) = false) : isNumber l = false := by
  unfold isNumber
  cases l with
  | nil => rfl
  | cons c r =>
    simp only [List.head?_cons, Option.any_some] at h
    simp [h]
theorem letter_not_digit {x : Int} (h : isLetter x = true) : isDigit x = false := by
  unfold isLetter at h
  unfold isDigit
  simp at h ⊢
  omega
theorem head_letter_not_digit {l : List UInt8} (h : headLetter l = true) : (l.head?.any fun c => isDigit (c.toNat : Int)) = false := by
  unfold headLetter at h
  cases l with
  | nil => rfl
  | cons c r =>
    simp only [List.head?_cons, Option.any_some] at h ⊢
    exact letter_not_digit h
theorem lead_take (p : Int → Bool) (l : List UInt8) : lead p (l.take (lead p l)) = lead p l := by
  have h1 := lead_le p l
  have h2 : lead p (l.take (lead p l)) = (l.take (lead p l)).length := lead_all (fun j hj => by
    rw [List.getElem_take]
    have hj' : j < lead p l := by simp at hj; omega
    exact lead_in (by omega) hj')
  rw [h2, List.length_take]
  omega
theorem lead_pos {p : Int → Bool} {l : List UInt8} (h : (l.head?.any fun c => p (c.toNat : Int)) = true) : 0 < lead p l := by
  cases l with
  | nil => simp at h
  | cons c r =>
    simp only [List.head?_cons, Option.any_some] at h
    rw [lead_cons_true h]
    omega
theorem lead_zero {p : Int → Bool} {l : List UInt8} (h : (l.head?.any fun c => p (c.toNat : Int)) = false) : lead p l = 0 := by
  cases l with
  | nil => rfl
  | cons c r =>
    simp only [List.head?_cons, Option.any_some] at h
    exact lead_cons_false h

/-- The word that a text begins with, by both roads. -/
structure Same1 (l : List UInt8) : Prop where
  kind : (firstTok l).kind = (ofTok (l.take (endLen l))).kind
  rest : (firstTok l).kind ≠ 0 → firstTok l = ofTok (l.take (endLen l)) ∧ (firstTok l).text.size = endLen l

theorem same1_letter {l : List UInt8} (h : headLetter l = true) : Same1 l := by
  have hp : (l.head?.any fun c => isNamed (c.toNat : Int)) = true := by
    unfold headLetter at h
    cases l with
    | nil => simp at h
    | cons c r =>
      simp only [List.head?_cons, Option.any_some] at h ⊢
      unfold isNamed; rw [h]; rfl
  have h0 := lead_pos hp
  have hle := lead_le isNamed l
  have he : endLen l = lead isNamed l := by unfold endLen; rw [if_pos h]
  have hh : headLetter (l.take (lead isNamed l)) = true := by unfold headLetter; rw [head_take h0]; exact h
  have hns := not_sign_letter hh
  have hnn : isNumber (l.take (lead isNamed l)) = false := not_number (head_letter_not_digit hh)
  have hsz : (bytesOf (l.take (lead isNamed l))).size = lead isNamed l := by rw [bytesOf_size, List.length_take]; omega
  have hnm : isName (bytesOf (l.take (lead isNamed l))) = (decide (lead isNamed l ≤ 12) && !isWord (bytesOf (l.take (lead isNamed l)))) := by
    unfold isName
    unfold headLetter at hh
    rw [bytesOf_data, hsz, lead_take, hh]
    simp [h0]
  have hv : numberVal (l.take (lead isNamed l)) = 0 := by unfold numberVal; rw [hnn]; rfl
  have hf : firstTok l = ⟨if isWord (bytesOf (l.take (lead isNamed l))) then 3 else if lead isNamed l ≤ 12 then 1 else 0, bytesOf (l.take (lead isNamed l)), 0, 0, 0⟩ := by
    unfold firstTok
    rw [if_pos (by simp [h0, h])]
  have ho : ofTok (l.take (lead isNamed l)) = ⟨if isWord (bytesOf (l.take (lead isNamed l))) then 3 else if lead isNamed l ≤ 12 then 1 else 0, bytesOf (l.take (lead isNamed l)), 0, 0, 0⟩ := by
    unfold ofTok ofKind ofNum
    rw [hnm, hnn, hns, hv]
    cases isWord (bytesOf (l.take (lead isNamed l))) <;> by_cases h12 : lead isNamed l ≤ 12 <;> simp [h12]
  refine ⟨by rw [he, hf, ho], fun _ => ⟨by rw [he, hf, ho], by rw [hf, he]; exact hsz⟩⟩

theorem same1_digit {l : List UInt8} (hl : headLetter l = false) (h : (l.head?.any fun c => isDigit (c.toNat : Int)) = true) : Same1 l := by
  have h0 := lead_pos h
  have hle := lead_le isDigit l
  have he : endLen l = lead isDigit l := by unfold endLen; rw [hl, if_neg (by decide), if_pos h]
  have hh : headLetter (l.take (lead isDigit l)) = false := by unfold headLetter; rw [head_take h0]; exact hl
  have hd : ((l.take (lead isDigit l)).head?.any fun c => isDigit (c.toNat : Int)) = true := by rw [head_take h0]; exact h
  have hnw := not_word hh
  have hnm := not_name hh
  have hns := not_sign_digit hd
  have hsz : (bytesOf (l.take (lead isDigit l))).size = lead isDigit l := by rw [bytesOf_size, List.length_take]; omega
  have hnn : isNumber (l.take (lead isDigit l)) = numOk (l.take (lead isDigit l)) := by
    have ha : (l.take (lead isDigit l)).all (fun c => isDigit (c.toNat : Int)) = true := by
      rw [List.all_eq_true]
      intro c hc
      have := lead_take_digits l c hc
      unfold isDigit
      simp
      omega
    have hne : (l.take (lead isDigit l)).isEmpty = false := by
      cases l with
      | nil => simp at h
      | cons c r =>
        obtain ⟨m, hm⟩ : ∃ m, lead isDigit (c :: r) = m + 1 := ⟨_, (Nat.succ_pred_eq_of_pos h0).symm⟩
        rw [hm]; rfl
    unfold isNumber
    rw [ha, hne]
    simp
  have hf : firstTok l = if numOk (l.take (lead isDigit l)) then ⟨2, bytesOf (l.take (lead isDigit l)), valOf (l.take (lead isDigit l)), 0, 0⟩ else ⟨0, .empty, 0, 0, 0⟩ := by
    unfold firstTok
    rw [if_neg (by simp [hl]), if_pos h0]
  have ho : ofTok (l.take (lead isDigit l)) = ⟨if numOk (l.take (lead isDigit l)) then 2 else 0, bytesOf (l.take (lead isDigit l)), if numOk (l.take (lead isDigit l)) then (valOf (l.take (lead isDigit l)) : Int) else 0, 0, 0⟩ := by
    unfold ofTok ofKind ofNum numberVal
    rw [hnm, hnn, hns, hnw]
    simp
  cases hk : numOk (l.take (lead isDigit l)) with
  | true =>
    rw [hk] at hf ho
    simp only [if_true] at hf ho
    refine ⟨by rw [he, hf, ho], fun _ => ⟨by rw [he, hf, ho], by rw [hf, he]; exact hsz⟩⟩
  | false =>
    rw [hk] at hf ho
    simp only [Bool.false_eq_true, if_false] at hf ho
    refine ⟨by rw [he, hf, ho], fun hne => ?_⟩
    rw [hf] at hne
    exact absurd rfl hne

theorem prefix_len {l g : List UInt8} (_ : g.length ≤ l.length) : Lib.hasPrefix l g = true ↔ l.take g.length = g := by
  refine ⟨fun h => (prefix_take h).2, fun h => ?_⟩
  unfold Lib.hasPrefix
  rw [List.isPrefixOf_iff_prefix]
  exact List.prefix_iff_eq_take.2 h.symm

theorem same1_sign {l : List UInt8} (h0 : l ≠ []) (hl : headLetter l = false) (hd : (l.head?.any fun c => isDigit (c.toNat : Int)) = false) : Same1 l := by
  have hpos : 0 < l.length := List.length_pos_iff.2 h0
  have hof : ∀ n, 0 < n → ofTok (l.take n) = ⟨if isSign (bytesOf (l.take n)) then 4 else 0, bytesOf (l.take n), 0, 0, 0⟩ := fun n hn => by
    have hh : headLetter (l.take n) = false := by unfold headLetter; rw [head_take hn]; exact hl
    have hnn : isNumber (l.take n) = false := not_number (by rw [head_take hn]; exact hd)
    have hv : numberVal (l.take n) = 0 := by unfold numberVal; rw [hnn]; rfl
    unfold ofTok ofKind ofNum
    rw [not_word hh, not_name hh, hnn, hv]
    simp
  have hf : firstTok l = match signOf l with
      | some g => (⟨4, g, 0, 0, 0⟩ : Tok)
      | none => ⟨0, .empty, 0, 0, 0⟩ := by
    unfold firstTok
    rw [if_neg (by simp [hl]), if_neg (by rw [lead_zero hd]; omega)]
    cases signOf l <;> rfl
  have hparts : signOf l = (signs2.find? fun g => Lib.hasPrefix l g.data.toList).or (signs1.find? fun g => Lib.hasPrefix l g.data.toList) := by
    unfold signOf
    rw [signs_parts, List.find?_append]
  have hend : endLen l = if 1 < l.length ∧ isSign (bytesOf (l.take 2)) = true then 2 else 1 := by
    unfold endLen
    rw [hl, if_neg (by decide), hd, if_neg (by decide)]
  cases h2 : signs2.find? fun g => Lib.hasPrefix l g.data.toList with
  | some g =>
    have hm := List.mem_of_find?_eq_some h2
    have hp := List.find?_some h2
    have hs := signs2_size g hm
    obtain ⟨h3, h4⟩ := prefix_take hp
    rw [hs] at h3 h4
    have e : bytesOf (l.take 2) = g := by rw [h4]; simp [bytesOf]
    have hsg : isSign g = true := isSign_iff.2 (by rw [signs_parts]; exact List.mem_append_left _ hm)
    have he : endLen l = 2 := by rw [hend, if_pos ⟨by omega, by rw [e]; exact hsg⟩]
    have hf2 : firstTok l = ⟨4, g, 0, 0, 0⟩ := by rw [hf, hparts, h2]; rfl
    have ho : ofTok (l.take 2) = ⟨4, g, 0, 0, 0⟩ := by rw [hof 2 (by omega), e, hsg]; rfl
    have hgs : g.size = 2 := by rw [← hs]; simp
    refine ⟨by rw [he, hf2, ho], fun _ => ⟨by rw [he, hf2, ho], by rw [hf2, he]; exact hgs⟩⟩
  | none =>
    have hno : ¬ (1 < l.length ∧ isSign (bytesOf (l.take 2)) = true) := fun ⟨h3, h4⟩ => by
      have hm := isSign_iff.1 h4
      rw [signs_parts] at hm
      have hlen : (bytesOf (l.take 2)).data.toList.length = 2 := by rw [bytesOf_data, List.length_take]; omega
      rcases List.mem_append.1 hm with hm | hm
      · have := List.find?_eq_none.1 h2 _ hm
        rw [bytesOf_data] at this
        apply this
        rw [prefix_len (by rw [List.length_take]; omega)]
        rw [List.length_take, Nat.min_eq_left (by omega)]
      · have := signs1_size _ hm
        omega
    have he : endLen l = 1 := by rw [hend, if_neg hno]
    cases h1 : signs1.find? fun g => Lib.hasPrefix l g.data.toList with
    | some g =>
      have hm := List.mem_of_find?_eq_some h1
      have hp := List.find?_some h1
      have hs := signs1_size g hm
      obtain ⟨h3, h4⟩ := prefix_take hp
      rw [hs] at h3 h4
      have e : bytesOf (l.take 1) = g := by rw [h4]; simp [bytesOf]
      have hsg : isSign g = true := isSign_iff.2 (by rw [signs_parts]; exact List.mem_append_right _ hm)
      have hf2 : firstTok l = ⟨4, g, 0, 0, 0⟩ := by rw [hf, hparts, h2, h1]; rfl
      have ho : ofTok (l.take 1) = ⟨4, g, 0, 0, 0⟩ := by rw [hof 1 (by omega), e, hsg]; rfl
      have hgs : g.size = 1 := by rw [← hs]; simp
      refine ⟨by rw [he, hf2, ho], fun _ => ⟨by rw [he, hf2, ho], by rw [hf2, he]; exact hgs⟩⟩
    | none =>
      have hns : isSign (bytesOf (l.take 1)) = false := by
        cases hw : isSign (bytesOf (l.take 1)) with
        | false => rfl
        | true =>
          have hm := isSign_iff.1 hw
          rw [signs_parts] at hm
          have hlen : (bytesOf (l.take 1)).data.toList.length = 1 := by rw [bytesOf_data, List.length_take]; omega
          rcases List.mem_append.1 hm with hm | hm
          · have := signs2_size _ hm
            omega
          · have := List.find?_eq_none.1 h1 _ hm
            rw [bytesOf_data] at this
            exfalso
            apply this
            rw [prefix_len (by rw [List.length_take]; omega)]
            rw [List.length_take, Nat.min_eq_left (by omega)]
      have hf2 : firstTok l = ⟨0, .empty, 0, 0, 0⟩ := by rw [hf, hparts, h2, h1]; rfl
      have ho : (ofTok (l.take 1)).kind = 0 := by rw [hof 1 (by omega), hns]; rfl
      refine ⟨by rw [he, hf2, ho], fun hne => ?_⟩
      rw [hf2] at hne
      exact absurd rfl hne
theorem same1 {l : List UInt8} (h0 : l ≠ []) : Same1 l := by
  cases hl : headLetter l with
  | true => exact same1_letter hl
  | false =>
    cases hd : (l.head?.any fun c => isDigit (c.toNat : Int)) with
    | true => exact same1_digit hl hd
    | false => exact same1_sign h0 hl hd

theorem sign_no_nl {l : List UInt8} {n : Nat} (h : isSign (bytesOf (l.take n)) = true) : ∀ c ∈ l.take n, c ≠ 10 := by
  have := (signs_head _ (isSign_iff.1 h)).2.2
  rw [bytesOf_data] at this
  exact this
theorem named_no_nl {p : Int → Bool} (hp : p 10 = false) (l : List UInt8) : ∀ c ∈ l.take (lead p l), c ≠ 10 := by
  intro c hc e
  obtain ⟨k, hk, rfl⟩ := List.mem_iff_getElem.1 hc
  have hk' : k < lead p l := by simp at hk; omega
  have hkl : k < l.length := by have := lead_le p l; omega
  have h := lead_in hkl hk'
  rw [List.getElem_take] at e
  rw [e] at h
  have : ((10 : UInt8).toNat : Int) = 10 := rfl
  rw [this, hp] at h
  exact absurd h (by decide)
/-- The bytes of a word hold no newline. -/
theorem end_no_nl {l : List UInt8} (h0 : l ≠ []) (h : l.head? ≠ some 10) : ∀ c ∈ l.take (endLen l), c ≠ 10 := by
  unfold endLen
  split
  · exact named_no_nl (by decide) l
  · split
    · exact named_no_nl (by decide) l
    · split
      · rename_i h2
        exact sign_no_nl h2.2
      · obtain ⟨c, r, rfl⟩ := List.exists_cons_of_ne_nil h0
        intro x hx
        have e : x = c := by simpa using hx
        subst e
        simpa using h

/-- Blanks are passed one by one. -/
theorem ref_blank : ∀ (l : List UInt8) (n : Nat) (a b : Int) (acc : List Tok) (f : Nat), n ≤ lead isBlank l → l.length < f →
    refF f l a b acc = refF (f - n) (l.drop n) (adv (l.take n) a b).1 (adv (l.take n) a b).2 acc
  | _, 0, a, b, acc, f, _, _ => by simp [adv]
  | [], n + 1, a, b, acc, f, h, _ => by simp [lead_nil] at h
  | c :: r, n + 1, a, b, acc, f, h, hf => by
    obtain ⟨f, rfl⟩ : ∃ x, f = x + 1 := ⟨f - 1, by omega⟩
    cases hc : isBlank (c.toNat : Int) with
    | false => rw [lead_cons_false hc] at h; omega
    | true =>
      rw [lead_cons_true hc] at h
      have hf' : r.length < f := by simpa using hf
      have e : f + 1 - (n + 1) = f - n := by omega
      rw [List.take_succ_cons, List.drop_succ_cons, e]
      by_cases h10 : c = 10
      · subst h10
        rw [refF, if_pos (by rfl)]
        simp only [adv, if_true]
        exact ref_blank r n _ _ _ _ (by omega) hf'
      · have hn : ¬ c.toNat = 10 := fun e => h10 (UInt8.toNat_inj.1 e)
        have hb : c.toNat = 32 ∨ c.toNat = 9 ∨ c.toNat = 13 := by
          unfold isBlank at hc
          simp at hc
          omega
        rw [refF, if_neg hn, if_pos hb]
        simp only [adv, if_neg h10]
        exact ref_blank r n _ _ _ _ (by omega) hf'

theorem scanF_ref : ∀ (n : Nat) (l : List UInt8) (a b : Int) (acc : List Tok) (f1 f2 : Nat), l.length ≤ n → l.length < f1 → l.length < f2 → scanF f1 l a b acc = refF f2 l a b acc
  | n, [], a, b, acc, f1, f2, _, h1, h2 => by
    obtain ⟨f1, rfl⟩ : ∃ x, f1 = x + 1 := ⟨f1 - 1, by omega⟩
    obtain ⟨f2, rfl⟩ : ∃ x, f2 = x + 1 := ⟨f2 - 1, by omega⟩
    rw [scanF, refF, if_pos rfl]
  | 0, c :: r, a, b, acc, f1, f2, h, _, _ => by simp at h
  | n + 1, c :: r, a, b, acc, f1, f2, h, h1, h2 => by
    obtain ⟨f1, rfl⟩ : ∃ x, f1 = x + 1 := ⟨f1 - 1, by omega⟩
    have hne : (c :: r) ≠ [] := by simp
    rw [scanF, if_neg hne]
    by_cases h35 : c = 35
    · subst h35
      have hbl : blankLen (35 :: r) = lead notNl (35 :: r) := by unfold blankLen; exact if_pos rfl
      have hp : 0 < lead notNl (35 :: r) := by rw [lead_cons_true (by rfl)]; omega
      have hle := lead_le notNl (35 :: r)
      obtain ⟨f2, rfl⟩ : ∃ x, f2 = x + 1 := ⟨f2 - 1, by omega⟩
      rw [hbl, if_pos hp, refF, if_neg (by decide), if_neg (by decide), if_pos (by rfl)]
      rw [adv_plain _ a b (named_no_nl (by decide) _), List.length_take, Nat.min_eq_left hle]
      refine scanF_ref n _ _ _ _ _ _ ?_ ?_ ?_ <;> rw [List.length_drop] <;> omega
    · have hbl : blankLen (c :: r) = lead isBlank (c :: r) := by
        unfold blankLen
        rw [if_neg (by simpa using h35)]
      have hle := lead_le isBlank (c :: r)
      rw [hbl]
      by_cases hb : 0 < lead isBlank (c :: r)
      · rw [if_pos hb, ref_blank (c :: r) (lead isBlank (c :: r)) a b acc f2 (Nat.le_refl _) h2]
        refine scanF_ref n _ _ _ _ _ _ ?_ ?_ ?_ <;> rw [List.length_drop] <;> omega
      · rw [if_neg hb]
        obtain ⟨f2, rfl⟩ : ∃ x, f2 = x + 1 := ⟨f2 - 1, by omega⟩
        have hcb : isBlank (c.toNat : Int) = false := by
          cases hc : isBlank (c.toNat : Int) with
          | false => rfl
          | true => rw [lead_cons_true hc] at hb; omega
        have hc4 : c.toNat ≠ 10 ∧ ¬ (c.toNat = 32 ∨ c.toNat = 9 ∨ c.toNat = 13) := by
          unfold isBlank at hcb
          simp at hcb
          omega
        have hc5 : ¬ c.toNat = 35 := fun e => h35 (UInt8.toNat_inj.1 e)
        have hs := same1 hne
        have hen := endLen_bd hne
        rw [refF, if_neg hc4.1, if_neg hc4.2, if_neg hc5, ← hs.kind]
        by_cases hk : (firstTok (c :: r)).kind = 0
        · rw [if_pos hk, if_pos hk]
        · rw [if_neg hk, if_neg hk]
          obtain ⟨e1, e2⟩ := hs.rest hk
          have hnl : ∀ x ∈ (c :: r).take (endLen (c :: r)), x ≠ 10 := end_no_nl hne (by simp; intro e; exact hc4.1 (by rw [e]; rfl))
          rw [e2, adv_plain _ a b hnl, List.length_take, Nat.min_eq_left hen.2, e1]
          refine scanF_ref n _ _ _ _ _ _ ?_ ?_ ?_ <;> rw [List.length_drop] <;> omega
theorem scan_is_ref (l : List UInt8) : scanOf l = refOf l := by
  unfold scanOf refOf
  split
  · rfl
  · exact scanF_ref l.length l 1 1 [] _ _ (Nat.le_refl _) (by omega) (by omega)
end Go.Proofs.YtjfoinikdifgmaaDoor
