/- Plain words on the words of a text: of which kind each is; a whole text that is one word. -/
import Derived.Test.YtjfoinikdifgmaaDoorScanR
namespace Go.Proofs.YtjfoinikdifgmaaDoor
set_option linter.unusedVariables false
set_option linter.unusedSimpArgs false

theorem refF_all (P : Tok → Prop) (hP : ∀ x a b, (ofTok x).kind ≠ 0 → P { ofTok x with line := a, col := b }) : ∀ (f : Nat) (l : List UInt8) (a b : Int) (acc : List Tok), (∀ t ∈ acc, P t) → ∀ t ∈ (refF f l a b acc).1, P t
  | 0, l, a, b, acc, h => by rw [refF]; exact h
  | f + 1, [], a, b, acc, h => by rw [refF]; exact h
  | f + 1, c :: r, a, b, acc, h => by
    rw [refF]
    split
    · exact refF_all P hP f _ _ _ _ h
    · split
      · exact refF_all P hP f _ _ _ _ h
      · split
        · exact refF_all P hP f _ _ _ _ h
        · split
          · intro t ht; cases ht
          · rename_i hk
            refine refF_all P hP f _ _ _ _ (fun t ht => ?_)
            rcases List.mem_append.1 ht with ht | ht
            · exact h t ht
            · obtain rfl := List.mem_singleton.1 ht
              exact hP _ _ _ hk
theorem refF_res : ∀ (f : Nat) (l : List UInt8) (a b : Int) (acc : List Tok), 1 ≤ a → ((refF f l a b acc).2 = (0, 0, 0) ∧ acc <+: (refF f l a b acc).1) ∨ ∃ a' b', refF f l a b acc = ([], a', b', 10) ∧ a ≤ a'
  | 0, l, a, b, acc, h => by rw [refF]; exact .inl ⟨rfl, List.prefix_refl _⟩
  | f + 1, [], a, b, acc, h => by rw [refF]; exact .inl ⟨rfl, List.prefix_refl _⟩
  | f + 1, c :: r, a, b, acc, h => by
    rw [refF]
    split
    · rcases refF_res f r (a + 1) 1 acc (by omega) with h1 | ⟨a', b', h1, h2⟩
      · exact .inl h1
      · exact .inr ⟨a', b', h1, by omega⟩
    · split
      · exact refF_res f _ _ _ _ h
      · split
        · exact refF_res f _ _ _ _ h
        · split
          · exact .inr ⟨a, b, rfl, Int.le_refl _⟩
          · rcases refF_res f ((c :: r).drop (endLen (c :: r))) a (b + endLen (c :: r)) (acc ++ [{ ofTok ((c :: r).take (endLen (c :: r))) with line := a, col := b }]) h with ⟨h1, h2⟩ | h1
            · exact .inl ⟨h1, (List.prefix_append _ _).trans h2⟩
            · exact .inr h1
theorem scan_res {l : List UInt8} (hl : l.length ≤ 20000) : (scanOf l).2 = (0, 0, 0) ∨ ∃ a' b', scanOf l = ([], a', b', 10) ∧ 1 ≤ a' := by
  rw [scan_is_ref]
  unfold refOf
  rw [if_neg (by omega)]
  rcases refF_res (l.length + 1) l 1 1 [] (by omega) with h | h
  · exact .inl h.1
  · exact .inr h

/-- What a word that was scanned is like. -/
structure TokIs (t : Tok) : Prop where
  name : isName t.text = (t.kind == 1)
  word : isWord t.text = (t.kind == 3)
  sign : isSign t.text = (t.kind == 4)
  kind : 1 ≤ t.kind ∧ t.kind ≤ 4
  num : t.kind ≠ 2 → t.num = 0
  pos : 0 ≤ t.num
  num2 : t.num ≤ 9223372036854775807
theorem sign_others {s : ByteArray} (h : isSign s = true) : isWord s = false ∧ isName s = false ∧ isNumber s.data.toList = false := by
  have hh := signs_head s (isSign_iff.1 h)
  have e : s = bytesOf s.data.toList := by simp [bytesOf]
  have hl : headLetter s.data.toList = false := hh.1
  refine ⟨?_, ?_, not_number hh.2.1⟩
  · rw [e]; exact not_word hl
  · rw [e]; exact not_name hl
theorem isNumber_lt {l : List UInt8} (h : isNumber l = true) : numberVal l = (valOf l : Int) ∧ valOf l < 1000000000000000000 := by
  refine ⟨by unfold numberVal; rw [if_pos h], ?_⟩
  unfold isNumber at h
  simp only [Bool.and_eq_true] at h
  obtain ⟨⟨_, h2⟩, h3⟩ := h
  refine valOf_lt18 (fun c hc => ?_) ?_
  · have := List.all_eq_true.1 h2 c hc
    unfold isDigit at this
    simp at this
    omega
  · unfold numOk at h3
    simp only [Bool.and_eq_true, decide_eq_true_eq] at h3
    exact h3.1
theorem tokIs_of (x : List UInt8) (a b : Int) (hk : (ofTok x).kind ≠ 0) : TokIs { ofTok x with line := a, col := b } := by
  have hd : (bytesOf x).data.toList = x := by simp [bytesOf]
  have hnv : numberVal x = 0 ∨ isNumber x = true := by
    cases h : isNumber x
    · left; unfold numberVal; rw [h]; rfl
    · exact .inr rfl
  unfold ofTok ofKind ofNum at hk ⊢
  simp only at hk ⊢
  cases hw : isWord (bytesOf x) with
  | true =>
    have hs : isSign (bytesOf x) = false := by
      cases h : isSign (bytesOf x) with
      | false => rfl
      | true => rw [(sign_others h).1] at hw; exact absurd hw (by decide)
    have hn : isName (bytesOf x) = false := by unfold isName; rw [hw]; simp
    constructor <;> simp [hw, hs, hn]
  | false =>
    rw [hw] at hk
    cases hn : isName (bytesOf x) with
    | true =>
      have hs : isSign (bytesOf x) = false := by
        cases h : isSign (bytesOf x) with
        | false => rfl
        | true => rw [(sign_others h).2.1] at hn; exact absurd hn (by decide)
      constructor <;> simp [hw, hs, hn]
    | false =>
      rw [hn] at hk
      cases hb : isNumber x with
      | true =>
        have hs : isSign (bytesOf x) = false := by
          cases h : isSign (bytesOf x) with
          | false => rfl
          | true => rw [← hd, (sign_others h).2.2] at hb; exact absurd hb (by decide)
        obtain ⟨e1, e2⟩ := isNumber_lt hb
        constructor <;> simp [hw, hs, hn, hb, e1] <;> omega
      | false =>
        rw [hb] at hk
        have hv : numberVal x = 0 := by rcases hnv with h | h; exact h; rw [h] at hb; exact absurd hb (by decide)
        cases hs : isSign (bytesOf x) with
        | true => constructor <;> simp [hw, hs, hn, hb, hv]
        | false => rw [hs] at hk; exact absurd rfl hk
theorem scan_kinds {l : List UInt8} : ∀ t ∈ (scanOf l).1, TokIs t := by
  rw [scan_is_ref]
  unfold refOf
  split
  · intro t ht; cases ht
  · exact refF_all TokIs tokIs_of _ _ _ _ _ (by intro t ht; cases ht)

/-- A text that is one word. -/
theorem scan_one {l : List UInt8} (h0 : l ≠ []) (hl : l.length ≤ 20000) (hb : blankLen l = 0) (hk : (firstTok l).kind ≠ 0) (hs : (firstTok l).text.size = l.length) : scanOf l = ([{ firstTok l with line := 1, col := 1 }], 0, 0, 0) := by
  unfold scanOf
  obtain ⟨n, hn⟩ : ∃ n, l.length = n + 1 := ⟨l.length - 1, by have := List.length_pos_iff.2 h0; omega⟩
  rw [if_neg (by omega), hn, scanF, if_neg h0, if_neg (by omega), if_neg hk, hs, List.drop_length, scanF, if_pos rfl]
  rfl
theorem words_named : ∀ g ∈ scanWords, (g.data.toList.all fun c => isNamed (c.toNat : Int)) = true ∧ 0 < g.data.toList.length := by decide
theorem signs_scan : ∀ g ∈ scanSigns, (g.data.toList ≠ [] ∧ blankLen g.data.toList = 0) ∧ ((firstTok g.data.toList).kind ≠ 0 ∧ (firstTok g.data.toList).text.data = g.data) := by decide
theorem letter_blank {l : List UInt8} (h : headLetter l = true) : blankLen l = 0 := by
  unfold headLetter at h
  cases l with
  | nil => rfl
  | cons c r =>
    simp only [List.head?_cons, Option.any_some] at h
    unfold isLetter at h
    simp at h
    unfold blankLen
    rw [if_neg (by simp only [List.head?_cons, Option.some.injEq]; intro e; rw [e] at h; exact absurd h.1 (by decide))]
    exact lead_cons_false (by unfold isBlank; simp; omega)
theorem scan_named {l : List UInt8} (hh : headLetter l = true) (ha : lead isNamed l = l.length) (hl : l.length ≤ 20000) (hk : isWord (bytesOf l) = true ∨ l.length ≤ 12) : (∃ t, scanOf l = ([t], 0, 0, 0) ∧ t.text = bytesOf l ∧ t.line = 1 ∧ t.col = 1) := by
  have h0 : l ≠ [] := by intro e; rw [e] at hh; exact absurd hh (by decide)
  have hpos := List.length_pos_iff.2 h0
  have hf : firstTok l = ⟨if isWord (bytesOf l) then 3 else if l.length ≤ 12 then 1 else 0, bytesOf l, 0, 0, 0⟩ := by
    unfold firstTok
    rw [if_pos (by simp [ha, hh]; omega), ha, List.take_length]
  refine ⟨_, scan_one h0 hl (letter_blank hh) ?_ ?_, ?_, rfl, rfl⟩
  · rw [hf]
    simp only
    split
    · omega
    · rename_i h1
      rcases hk with h | h
      · exact absurd h h1
      · rw [if_pos h]; omega
  · rw [hf]; exact bytesOf_size l
  · rw [hf]
theorem scan_name {s : ByteArray} (h : isName s = true) : (∃ t, scanOf s.data.toList = ([t], 0, 0, 0) ∧ t.text = s ∧ t.line = 1 ∧ t.col = 1) := by
  unfold isName at h
  simp only [Bool.and_eq_true, decide_eq_true_eq, beq_iff_eq] at h
  obtain ⟨⟨⟨⟨h1, h2⟩, h3⟩, h4⟩, h5⟩ := h
  have hlen : s.data.toList.length = s.size := by simp
  obtain ⟨t, e1, e2, e3, e4⟩ := scan_named (l := s.data.toList) h3 (by rw [h2, hlen]) (by omega) (.inr (by omega))
  exact ⟨t, e1, by rw [e2]; simp [bytesOf], e3, e4⟩
theorem scan_word {s : ByteArray} (h : isWord s = true) (hs : s.size ≤ 12) : (∃ t, scanOf s.data.toList = ([t], 0, 0, 0) ∧ t.text = s ∧ t.line = 1 ∧ t.col = 1) := by
  have h1 := words_head s (isWord_iff.1 h)
  have h2 := words_named s (isWord_iff.1 h)
  have hlen : s.data.toList.length = s.size := by simp
  have e : bytesOf s.data.toList = s := by simp [bytesOf]
  obtain ⟨t, e1, e2, e3, e4⟩ := scan_named (l := s.data.toList) h1 (lead_all (fun j hj => List.all_eq_true.1 h2.1 _ (List.getElem_mem hj))) (by omega) (.inl (by rw [e]; exact h))
  exact ⟨t, e1, by rw [e2, e], e3, e4⟩
theorem scan_sign {s : ByteArray} (h : isSign s = true) (hs : s.size ≤ 12) : (∃ t, scanOf s.data.toList = ([t], 0, 0, 0) ∧ t.text = s ∧ t.line = 1 ∧ t.col = 1) := by
  have h1 := signs_scan s (isSign_iff.1 h)
  have e : (firstTok s.data.toList).text = s := ByteArray.ext h1.2.2
  have hlen : s.data.toList.length = s.size := by simp
  exact ⟨_, scan_one h1.1.1 (by omega) h1.1.2 h1.2.1 (by rw [e, hlen]), e, rfl, rfl⟩
/-- How long the words are together. -/
def sizes : List Tok → Nat
  | [] => 0
  | t :: l => t.text.size + sizes l
theorem sizes_append : ∀ (a b : List Tok), sizes (a ++ b) = sizes a + sizes b
  | [], b => by simp [sizes]
  | t :: a, b => by rw [List.cons_append, sizes, sizes, sizes_append a b]; omega
theorem sizes_mem : ∀ {l : List Tok} {t : Tok}, t ∈ l → t.text.size ≤ sizes l
  | [], t, h => by cases h
  | x :: l, t, h => by
    rw [sizes]
    rcases List.mem_cons.1 h with rfl | h
    · omega
    · have := sizes_mem h; omega
theorem refF_sizes : ∀ (f : Nat) (l : List UInt8) (a b : Int) (acc : List Tok), sizes (refF f l a b acc).1 ≤ sizes acc + l.length ∧ (refF f l a b acc).1.length ≤ acc.length + l.length
  | 0, l, a, b, acc => by rw [refF]; simp only; omega
  | f + 1, [], a, b, acc => by rw [refF]; simp
  | f + 1, c :: r, a, b, acc => by
    have hlen : (c :: r).length = r.length + 1 := rfl
    rw [refF]
    split
    · have := refF_sizes f r (a + 1) 1 acc; omega
    · split
      · have := refF_sizes f r a (b + 1) acc; omega
      · split
        · have := refF_sizes f ((c :: r).drop (lead notNl (c :: r))) a (b + lead notNl (c :: r)) acc
          rw [List.length_drop] at this
          omega
        · have he := endLen_bd (m := c :: r) (by simp)
          split
          · simp only [sizes, List.length_nil]; omega
          · have key : ∀ T : Tok, T.text.size = endLen (c :: r) → sizes (refF f ((c :: r).drop (endLen (c :: r))) a (b + endLen (c :: r)) (acc ++ [T])).1 ≤ sizes acc + (c :: r).length ∧ (refF f ((c :: r).drop (endLen (c :: r))) a (b + endLen (c :: r)) (acc ++ [T])).1.length ≤ acc.length + (c :: r).length := fun T hT => by
              have h1 := refF_sizes f ((c :: r).drop (endLen (c :: r))) a (b + endLen (c :: r)) (acc ++ [T])
              rw [List.length_drop, sizes_append, List.length_append] at h1
              simp only [sizes, List.length_cons, List.length_nil, hT] at h1 he ⊢
              omega
            refine key _ ?_
            have : (ofTok ((c :: r).take (endLen (c :: r)))).text = bytesOf ((c :: r).take (endLen (c :: r))) := rfl
            simp only [this, bytesOf_size, List.length_take]
            omega
theorem scan_sizes (l : List UInt8) : sizes (scanOf l).1 ≤ l.length ∧ (scanOf l).1.length ≤ l.length := by
  rw [scan_is_ref]
  unfold refOf
  split
  · simp [sizes]
  · have := refF_sizes (l.length + 1) l 1 1 []
    simpa [sizes] using this
theorem scan_text_le {l : List UInt8} {t : Tok} (h : t ∈ (scanOf l).1) : t.text.size ≤ l.length := by
  have := sizes_mem h
  have := (scan_sizes l).1
  omega
end Go.Proofs.YtjfoinikdifgmaaDoor
