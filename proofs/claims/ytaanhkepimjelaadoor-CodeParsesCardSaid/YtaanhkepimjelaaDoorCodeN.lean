/- Plain laws of chapter 05's strict reading: what digits tell, and what lines a program's text has. -/
import Derived.Test.YtaanhkepimjelaaDoorCodeL
namespace Go.Proofs.YtaanhkepimjelaaDoor
set_option linter.unusedVariables false
set_option linter.unusedSimpArgs false

/-- What the digits tell, below 0, as 64 bits hold it. -/
def numF (l : List UInt8) : Int := l.foldl (fun n b => IntKind.i64.wrap (IntKind.i64.wrap (10 * n) - ((b.toNat : Int) - 48))) 0
theorem numF_app (l : List UInt8) (b : UInt8) : numF (l ++ [b]) = IntKind.i64.wrap (IntKind.i64.wrap (10 * numF l) - ((b.toNat : Int) - 48)) := by
  unfold numF
  rw [List.foldl_append]
  rfl
theorem wrap_id {n : Int} (h0 : -9223372036854775808 ≤ n) (h1 : n ≤ 9223372036854775807) : IntKind.i64.wrap n = n := by
  exact IntWalk.i64_in n ⟨h0, h1⟩
theorem numF_dec : ∀ (n u : Nat), u ≤ n → u ≤ 9223372036854775808 → numF (Lib.decDigits u) = -(u : Int)
  | n, u, hn, hu => by
    have hd : (UInt8.ofNat (48 + u % 10)).toNat = 48 + u % 10 := by simp only [UInt8.toNat_ofNat']; omega
    by_cases h : u < 10
    · rw [Lib.decDigits, dif_pos h]
      have hd' : (UInt8.ofNat (48 + u)).toNat = 48 + u := by simp only [UInt8.toNat_ofNat']; omega
      have e := numF_app [] (UInt8.ofNat (48 + u))
      rw [List.nil_append] at e
      rw [e, hd', show numF [] = 0 from rfl, show IntKind.i64.wrap (10 * 0) = 0 from wrap_id (by omega) (by omega), wrap_id (by omega) (by omega)]
      omega
    · rw [Lib.decDigits, dif_neg h]
      cases n with
      | zero => omega
      | succ n =>
        have e1 : IntKind.i64.wrap (10 * -((u / 10 : Nat) : Int)) = 10 * -((u / 10 : Nat) : Int) := wrap_id (by omega) (by omega)
        rw [numF_app, hd, numF_dec n (u / 10) (by omega) (by omega), e1, wrap_id (by omega) (by omega)]
        omega
theorem dec_len : ∀ (k u : Nat), 1 ≤ k → u < 10 ^ k → (Lib.decDigits u).length ≤ k
  | 0, u, hk, _ => by omega
  | k + 1, u, _, hu => by
    by_cases h : u < 10
    · rw [Lib.decDigits, dif_pos h]
      simp
    · rw [Lib.decDigits, dif_neg h, List.length_append, List.length_singleton]
      have hk : 1 ≤ k := by
        rcases Nat.eq_zero_or_pos k with rfl | hk
        · simp at hu
          omega
        · exact hk
      have := dec_len k (u / 10) hk (by rw [Nat.pow_succ] at hu; omega)
      omega
/-- A text is a number's own. -/
def NumIs (l : List UInt8) (n : Int) : Prop := (-9223372036854775808 ≤ n ∧ n ≤ 9223372036854775807) ∧ Lib.itoa n = l
def digitsOf (l : List UInt8) : List UInt8 := if l.head? = some 45 then l.drop 1 else l
theorem dec_head (u : Nat) : ∃ b r, Lib.decDigits u = b :: r ∧ 48 ≤ b.toNat ∧ b.toNat ≤ 57 := by
  cases hl : Lib.decDigits u with
  | nil => exact absurd hl (dec_ne u)
  | cons b r => exact ⟨b, r, rfl, dec_digits u u (Nat.le_refl _) b (by rw [hl]; simp)⟩
/-- What a number's own text is: its digits, the number below 0. -/
theorem numIs_parts {l : List UInt8} {n : Int} (h : NumIs l n) : (digitsOf l).length ≤ 19 ∧ 1 ≤ (digitsOf l).length ∧ (∀ b ∈ digitsOf l, 48 ≤ b.toNat ∧ b.toNat ≤ 57) ∧ (if (digitsOf l).length = l.length then IntKind.i64.wrap (-(numF (digitsOf l))) else numF (digitsOf l)) = n := by
  obtain ⟨⟨h0, h1⟩, rfl⟩ := h
  have hp : (9223372036854775808 : Nat) < 10 ^ 19 := by decide
  rcases Int.lt_or_le n 0 with h | h
  · obtain ⟨u, rfl⟩ : ∃ u : Nat, n = -(u : Int) := ⟨n.natAbs, by omega⟩
    have e : digitsOf (Lib.itoa (-(u : Int))) = Lib.decDigits u := by
      rw [Lib.itoa_neg u (by omega)]
      rfl
    have hl := dec_len 19 u (by omega) (by omega)
    obtain ⟨b, r, hb, _⟩ := dec_head u
    rw [e, Lib.itoa_neg u (by omega), numF_dec u u (Nat.le_refl _) (by omega)]
    refine ⟨hl, by rw [hb]; simp, dec_digits u u (Nat.le_refl _), ?_⟩
    rw [if_neg (by simp)]
  · obtain ⟨u, rfl⟩ : ∃ u : Nat, n = u := ⟨n.toNat, by omega⟩
    have hl := dec_len 19 u (by omega) (by omega)
    obtain ⟨b, r, hb, hb1, hb2⟩ := dec_head u
    have e : digitsOf (Lib.itoa (u : Int)) = Lib.decDigits u := by
      rw [Lib.itoa_nonneg, hb]
      unfold digitsOf
      rw [List.head?_cons, if_neg]
      intro h
      injection h with h
      subst h
      simp at hb1
    rw [e, Lib.itoa_nonneg, numF_dec u u (Nat.le_refl _) (by omega)]
    refine ⟨hl, by rw [hb]; simp, dec_digits u u (Nat.le_refl _), ?_⟩
    rw [if_pos rfl, wrap_id (by omega) (by omega)]
    omega
theorem numF_range : ∀ (l : List UInt8), -9223372036854775808 ≤ numF l ∧ numF l ≤ 9223372036854775807 := by
  intro l
  rcases List.eq_nil_or_concat l with rfl | ⟨r, b, rfl⟩
  · exact ⟨by decide, by decide⟩
  · rw [List.concat_eq_append, numF_app]
    rw [IntKind.wrap_i64]
    omega
/-! A text's parts put together again. -/
def joinC (c : UInt8) : List (List UInt8) → List UInt8
  | [] => []
  | [x] => x
  | x :: y :: r => x ++ c :: joinC c (y :: r)
theorem join_split (c : UInt8) : ∀ l : List UInt8, joinC c (splitC c l) = l
  | [] => rfl
  | x :: r => by
    have ih := join_split c r
    unfold splitC
    cases hs : splitC c r with
    | nil => exact absurd hs (splitC_ne c r)
    | cons h t =>
      rw [hs] at ih
      split
      · rename_i hx
        show [] ++ c :: joinC c (h :: t) = _
        rw [ih, hx]
        rfl
      · cases t with
        | nil =>
          show x :: h = _
          rw [← ih]
          rfl
        | cons y t =>
          show (x :: h) ++ c :: joinC c (y :: t) = _
          rw [← ih]
          rfl
theorem splitC_count (c : UInt8) : ∀ l : List UInt8, (splitC c l).length ≤ l.length + 1
  | [] => by simp [splitC]
  | x :: r => by
    have ih := splitC_count c r
    unfold splitC
    cases hs : splitC c r with
    | nil => exact absurd hs (splitC_ne c r)
    | cons h t =>
      rw [hs] at ih
      simp only [List.length_cons] at ih ⊢
      split
      · simp only [List.length_cons]
        omega
      · simp only [List.length_cons]
        omega
theorem split_inj {c : UInt8} {a b : List UInt8} (h : splitC c a = splitC c b) : a = b := by
  rw [← join_split c a, ← join_split c b, h]
theorem split_arr : ∀ (l : List Int) (x : List UInt8), (32 : UInt8) ∉ x → splitC 32 (x ++ arrText l) = x :: l.map Lib.itoa
  | [], x, hx => by
    show splitC 32 (x ++ []) = _
    rw [List.append_nil, splitC_no 32 hx]
    rfl
  | n :: l, x, hx => by
    have e : x ++ arrText (n :: l) = x ++ 32 :: (Lib.itoa n ++ arrText l) := rfl
    rw [e, splitC_app 32 _ hx, split_arr l _ (itoa_not n 32 (by decide))]
    rfl
theorem split_body (i : Ins) : splitC 32 (body i) = (opName i.op.toNat).data.toList :: (if i.n = 0 then [] else [Lib.itoa i.n]) := by
  have hn := opName_no i.op.toNat 32 (by decide)
  unfold body
  split
  · rw [List.append_nil, splitC_no 32 hn]
  · rw [splitC_app 32 _ hn, splitC_no 32 (itoa_not i.n 32 (by decide))]
theorem split_vars (v : Int) : splitC 32 ([118, 97, 114, 115, 32] ++ Lib.itoa v) = [[118, 97, 114, 115], Lib.itoa v] := by
  have e : ([118, 97, 114, 115, 32] : List UInt8) ++ Lib.itoa v = [118, 97, 114, 115] ++ 32 :: Lib.itoa v := rfl
  rw [e, splitC_app 32 _ (by decide), splitC_no 32 (itoa_not v 32 (by decide))]
/-- What a strict reading finds in a text: the program whose text it is. -/
theorem strict_text {s : ByteArray} {q : Cp} {L : List (List UInt8)} (hL : L = splitC 10 s.data.toList) (h4 : 3 ≤ L.length) (hlast : L.getD (L.length - 1) [] = []) (hv : splitC 32 (L.getD 0 []) = [[118, 97, 114, 115], Lib.itoa q.vars]) (ha : splitC 32 (L.getD 1 []) = [97, 114, 114, 97, 121, 115] :: q.arrays.map Lib.itoa) (hc : (L.drop 2).take (L.length - 3) = q.code.map body) : (⟨(cpText q).toArray⟩ : ByteArray) = s := by
  have e0 : L.getD 0 [] = [118, 97, 114, 115, 32] ++ Lib.itoa q.vars := split_inj (c := 32) (by rw [hv, split_vars])
  have e1 : L.getD 1 [] = [97, 114, 114, 97, 121, 115] ++ arrText q.arrays := split_inj (c := 32) (by rw [ha, split_arr _ _ (by decide)])
  have hs : splitC 10 (cpText q) = splitC 10 s.data.toList := by
    rw [lines_of, ← hL, ← hc, ← e0, ← e1]
    match L, h4, hlast with
    | a :: b :: r, h4, hlast =>
      have hr : r ≠ [] := by
        rintro rfl
        simp at h4
      have hg : r.getLast hr = [] := by
        rw [List.getLast_eq_getElem]
        have e : (a :: b :: r).getD ((a :: b :: r).length - 1) [] = r[r.length - 1]'(by have := List.length_pos_iff.2 hr; omega) := by
          have hp := List.length_pos_iff.2 hr
          obtain ⟨m, hm⟩ : ∃ m, r.length = m + 1 := ⟨r.length - 1, by omega⟩
          simp [List.getD_eq_getElem?_getD, hm]
        rw [e] at hlast
        exact hlast
      have hd := List.dropLast_concat_getLast hr
      rw [hg, List.dropLast_eq_take] at hd
      simp only [List.getD_cons_zero, List.getD_cons_succ, List.drop_succ_cons, List.drop_zero, List.length_cons]
      rw [show r.length + 1 + 1 - 3 = r.length - 1 by omega, hd]
  have hb := split_inj hs
  apply ByteArray.ext
  rw [hb]
theorem cpText_ne {q q' : Cp} (hop : ∀ i ∈ q.code, 1 ≤ i.op ∧ i.op ≤ 29) (hn : ∀ i ∈ q.code, -9223372036854775808 ≤ i.n ∧ i.n ≤ 9223372036854775807) (hv : -9223372036854775808 ≤ q.vars ∧ q.vars ≤ 9223372036854775807) (ha : ∀ n ∈ q.arrays, -9223372036854775808 ≤ n ∧ n ≤ 9223372036854775807) {s : ByteArray} (h : (⟨(cpText q).toArray⟩ : ByteArray) = s) (hm : q'.May) (h1 : ∀ i ∈ q'.code, i.Ok) (h2 : ∀ n ∈ q'.arrays, -9223372036854775808 ≤ n ∧ n ≤ 9223372036854775807) (h' : (⟨(cpText q').toArray⟩ : ByteArray) = s) : q' = q := by
  have e1 := read_may hm h1 h2
  have e2 := read_text hop hn hv ha
  rw [← lines_of_text h', lines_of_text h, e2] at e1
  exact e1.symm
/-- What lines a text has that is a program's. -/
theorem lines_strict {q : Cp} {s : ByteArray} (hm : q.May) (hok : ∀ i ∈ q.code, i.Ok) (ha : ∀ n ∈ q.arrays, -9223372036854775808 ≤ n ∧ n ≤ 9223372036854775807) (h : (⟨(cpText q).toArray⟩ : ByteArray) = s) {L : List (List UInt8)} (hL : L = splitC 10 s.data.toList) :
    4 ≤ L.length ∧ L.length = q.code.length + 3 ∧ L.getD (L.length - 1) [] = [] ∧ splitC 32 (L.getD 0 []) = [[118, 97, 114, 115], Lib.itoa q.vars] ∧ NumIs (Lib.itoa q.vars) q.vars ∧ splitC 32 (L.getD 1 []) = [97, 114, 114, 97, 121, 115] :: q.arrays.map Lib.itoa ∧ (∀ k (hk : k < q.code.length), splitC 32 (L.getD (2 + k) []) = (opName q.code[k].op.toNat).data.toList :: (if q.code[k].n = 0 then [] else [Lib.itoa q.code[k].n]) ∧ 1 ≤ q.code[k].op ∧ q.code[k].op ≤ 29 ∧ NumIs (Lib.itoa q.code[k].n) q.code[k].n) := by
  have hl := (lines_may hm).1
  obtain ⟨_, g1, g2, hv1, hv2, hf, _⟩ := Cp.whole_parts hm.1
  have hL2 := hL.trans (lines_of_text h)
  have hl2 := hl
  rw [← hL2] at hl2
  rw [lines_of q] at hL2
  subst hL2
  refine ⟨?_, ?_, ?_, split_vars _, ⟨by omega, rfl⟩, split_arr _ _ (by decide), fun k hk => ?_⟩
  · exact hl2
  · simp
  · simp [List.getD_eq_getElem?_getD]
  · have e : (([118, 97, 114, 115, 32] ++ Lib.itoa q.vars) :: ([97, 114, 114, 97, 121, 115] ++ arrText q.arrays) :: (q.code.map body ++ [[]])).getD (2 + k) [] = body q.code[k] := by
      rw [Nat.add_comm]
      simp only [List.getD_eq_getElem?_getD, List.getElem?_cons_succ]
      rw [List.getElem?_append_left (by simpa using hk)]
      simp [hk]
    rw [e]
    have hi := List.getElem_mem hk
    have ho := fits_op (hf _ hi)
    exact ⟨split_body _, ho.1, ho.2, (hok _ hi).2, rfl⟩
end Go.Proofs.YtaanhkepimjelaaDoor
