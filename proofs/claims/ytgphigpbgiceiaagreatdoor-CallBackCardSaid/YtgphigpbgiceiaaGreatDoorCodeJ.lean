/- Plain law of chapter 05: what is read from a program's text is that program. -/
import Derived.Test.YtgphigpbgiceiaaGreatDoorCodeI
namespace Go.Proofs.YtgphigpbgiceiaaGreatDoor
set_option linter.unusedVariables false
set_option linter.unusedSimpArgs false

def atoiV (l : List UInt8) : Int := match Lib.atoiAll l with
  | .ok v => v
  | .range => Lib.atoiSat l
  | _ => 0
def atoiO (l : List UInt8) : Option Int := match Lib.atoiAll l with
  | .ok v => some v
  | _ => none
def intV (l : List UInt8) : Int := match Lib.parseIntB 64 l with
  | .ok v => v
  | .range => Lib.intSat 64 l
  | _ => 0
def lineOf (x : List UInt8) : Ins := ⟨max 0 (Lib.idxOfS opNames ⟨(Lib.cut x [32]).1.toArray⟩), intV (Lib.cut x [32]).2.1⟩
/-- What code.Parse reads from a text's lines, before it asks whether the text is that program's. -/
def readP (L : List (List UInt8)) : Cp := ⟨((L.take (L.length - 1)).drop 2).map lineOf, atoiV (Lib.trimPrefix (L.getD 0 []) [118, 97, 114, 115, 32]), (Lib.fieldsD (L.getD 1 [])).filterMap atoiO⟩
theorem atoiV_itoa (v : Int) (h0 : -9223372036854775808 ≤ v) (h1 : v ≤ 9223372036854775807) : atoiV (Lib.itoa v) = v := by
  unfold atoiV
  rw [atoi_itoa v h0 h1]
theorem atoiO_itoa (v : Int) (h0 : -9223372036854775808 ≤ v) (h1 : v ≤ 9223372036854775807) : atoiO (Lib.itoa v) = some v := by
  unfold atoiO
  rw [atoi_itoa v h0 h1]
theorem intV_itoa (v : Int) (h0 : -9223372036854775808 ≤ v) (h1 : v ≤ 9223372036854775807) : intV (Lib.itoa v) = v := by
  unfold intV
  rw [Lib.parseIntB_64, atoi_itoa v h0 h1]
theorem opName_bytes (op : Nat) : ∀ b ∈ (opName op).data.toList, 97 ≤ b.toNat ∧ b.toNat < 128 := by
  unfold opName
  rw [List.getD_eq_getElem?_getD]
  match op with
  | 0 | 1 | 2 | 3 | 4 | 5 | 6 | 7 | 8 | 9 | 10 | 11 | 12 | 13 | 14 | 15 | 16 | 17 | 18 | 19 | 20 | 21 | 22 | 23 | 24 | 25 | 26 | 27 | 28 | 29 => decide
  | n + 30 =>
    intro b hb
    simp [opNames] at hb
theorem opName_at : ∀ op : Nat, op < 30 → Lib.idxOfS opNames (opName op) = op
  | 0, _ | 1, _ | 2, _ | 3, _ | 4, _ | 5, _ | 6, _ | 7, _ | 8, _ | 9, _ | 10, _ | 11, _ | 12, _ | 13, _ | 14, _ | 15, _ | 16, _ | 17, _ | 18, _ | 19, _ | 20, _ | 21, _ | 22, _ | 23, _ | 24, _ | 25, _ | 26, _ | 27, _ | 28, _ | 29, _ => by decide
  | n + 30, h => absurd h (by omega)
/-- An instruction's line. -/
def body (i : Ins) : List UInt8 := (opName i.op.toNat).data.toList ++ (if i.n = 0 then [] else 32 :: Lib.itoa i.n)
theorem insText_body (i : Ins) : insText i = body i ++ [10] := by
  unfold insText body
  rw [List.append_assoc]
theorem body_no (i : Ins) : (10 : UInt8) ∉ body i := by
  unfold body
  intro h
  rcases List.mem_append.1 h with h | h
  · have := (opName_bytes _ _ h).1
    simp at this
  · split at h
    · cases h
    · rcases List.mem_cons.1 h with h | h
      · simp at h
      · exact itoa_not i.n 10 (by decide) h
theorem opName_no (op : Nat) (c : UInt8) (hc : c.toNat < 97) : c ∉ (opName op).data.toList := fun h => by
  have := (opName_bytes op c h).1
  omega
theorem line_body (i : Ins) (h1 : 1 ≤ i.op) (h2 : i.op ≤ 29) (h3 : -9223372036854775808 ≤ i.n ∧ i.n ≤ 9223372036854775807) : lineOf (body i) = i := by
  obtain ⟨op, n⟩ := i
  simp only at h1 h2 h3
  obtain ⟨k, rfl⟩ : ∃ k : Nat, op = k := ⟨op.toNat, by omega⟩
  have hn := opName_no k 32 (by decide)
  have hx : (⟨(opName k).data.toList.toArray⟩ : ByteArray) = opName k := by
    apply ByteArray.ext
    simp
  have hi := opName_at k (by omega)
  unfold lineOf body
  simp only [Int.toNat_natCast]
  by_cases h0 : n = 0
  · subst h0
    rw [if_pos rfl, List.append_nil, cut_no 32 hn]
    simp only
    rw [hx, hi]
    have e : intV [] = 0 := rfl
    rw [e]
    congr 1
  · rw [if_neg h0, cut_app 32 _ hn]
    simp only
    rw [hx, hi, intV_itoa n h3.1 h3.2]
    congr 1
theorem split_code : ∀ l : List Ins, splitC 10 (codeText l) = l.map body ++ [[]]
  | [] => rfl
  | i :: l => by
    have e : codeText (i :: l) = body i ++ 10 :: codeText l := by
      show insText i ++ codeText l = _
      rw [insText_body, List.append_assoc]
      rfl
    rw [e, splitC_app 10 _ (body_no i), split_code l]
    rfl
theorem go_word : ∀ (x cur r : List UInt8), (∀ b ∈ x, Lib.isSp b = false) → Lib.fieldsGo cur (x ++ r) = Lib.fieldsGo (cur ++ x) r
  | [], cur, r, _ => by simp
  | b :: x, cur, r, h => by
    rw [List.cons_append, Lib.fieldsGo, if_neg (by rw [h b (by simp)]; decide), go_word x (cur ++ [b]) r (fun b hb => h b (by simp [hb])), List.append_assoc]
    rfl
theorem itoa_sp (v : Int) : ∀ b ∈ Lib.itoa v, Lib.isSp b = false := fun b hb => by
  have h := itoa_bytes v b hb
  have ne : ∀ c : UInt8, c.toNat < 45 → (b == c) = false := fun c hc => by
    rw [beq_eq_false_iff_ne]
    intro e
    subst e
    omega
  unfold Lib.isSp
  rw [ne 9 (by decide), ne 10 (by decide), ne 11 (by decide), ne 12 (by decide), ne 13 (by decide), ne 32 (by decide)]
  rfl
theorem go_arr : ∀ (l : List Int) (cur : List UInt8), cur ≠ [] → Lib.fieldsGo cur (arrText l) = cur :: l.map Lib.itoa
  | [], cur, h => by
    show Lib.fieldsGo cur [] = _
    rw [Lib.fieldsGo, if_neg (by simpa using h)]
    rfl
  | n :: l, cur, h => by
    have e : arrText (n :: l) = 32 :: (Lib.itoa n ++ arrText l) := rfl
    rw [e, Lib.fieldsGo, if_pos (by decide), if_neg (by simpa using h), go_word _ _ _ (itoa_sp n), List.nil_append, go_arr l _ (itoa_ne n)]
    rfl
theorem arr_ascii : ∀ (l : List Int), ∀ b ∈ arrText l, b.toNat < 128
  | [], b, h => by cases h
  | n :: l, b, h => by
    have e : arrText (n :: l) = 32 :: (Lib.itoa n ++ arrText l) := rfl
    rw [e] at h
    rcases List.mem_cons.1 h with rfl | h
    · decide
    · rcases List.mem_append.1 h with h | h
      · have := itoa_bytes n b h
        omega
      · exact arr_ascii l b h
theorem fields_arr (l : List Int) : Lib.fieldsD ([97, 114, 114, 97, 121, 115] ++ arrText l) = [97, 114, 114, 97, 121, 115] :: l.map Lib.itoa := by
  rw [Lib.fieldsD_ascii _ (fun b hb => by
    rcases List.mem_append.1 hb with h | h
    · clear hb
      revert b
      decide
    · exact arr_ascii l b h)]
  unfold Lib.fields
  rw [go_word _ _ _ (by decide), List.nil_append, go_arr l _ (by simp)]
theorem filter_itoa : ∀ (l : List Int), (∀ n ∈ l, -9223372036854775808 ≤ n ∧ n ≤ 9223372036854775807) → (l.map Lib.itoa).filterMap atoiO = l
  | [], _ => rfl
  | n :: l, h => by
    have hn := h n (by simp)
    rw [List.map_cons, List.filterMap_cons, atoiO_itoa n hn.1 hn.2, filter_itoa l (fun x hx => h x (by simp [hx]))]
/-- A program's lines. -/
theorem lines_of (q : Cp) : splitC 10 (cpText q) = ([118, 97, 114, 115, 32] ++ Lib.itoa q.vars) :: ([97, 114, 114, 97, 121, 115] ++ arrText q.arrays) :: (q.code.map body ++ [[]]) := by
  have e : cpText q = ([118, 97, 114, 115, 32] ++ Lib.itoa q.vars) ++ 10 :: (([97, 114, 114, 97, 121, 115] ++ arrText q.arrays) ++ 10 :: codeText q.code) := by
    unfold cpText headText
    simp
  have n1 : (10 : UInt8) ∉ [118, 97, 114, 115, 32] ++ Lib.itoa q.vars := fun h => by
    rcases List.mem_append.1 h with h | h
    · revert h
      decide
    · exact itoa_not _ 10 (by decide) h
  have n2 : ∀ l : List Int, (10 : UInt8) ∉ arrText l := fun l => by
    induction l with
    | nil => exact fun h => by cases h
    | cons n l ih =>
      have e : arrText (n :: l) = 32 :: (Lib.itoa n ++ arrText l) := rfl
      rw [e]
      intro h
      rcases List.mem_cons.1 h with h | h
      · revert h
        decide
      · rcases List.mem_append.1 h with h | h
        · exact itoa_not _ 10 (by decide) h
        · exact ih h
  have n3 : (10 : UInt8) ∉ [97, 114, 114, 97, 121, 115] ++ arrText q.arrays := fun h => by
    rcases List.mem_append.1 h with h | h
    · revert h
      decide
    · exact n2 _ h
  rw [e, splitC_app 10 _ n1, splitC_app 10 _ n3, split_code]
theorem read_text {q : Cp} (hop : ∀ i ∈ q.code, 1 ≤ i.op ∧ i.op ≤ 29) (hn : ∀ i ∈ q.code, -9223372036854775808 ≤ i.n ∧ i.n ≤ 9223372036854775807) (hv : -9223372036854775808 ≤ q.vars ∧ q.vars ≤ 9223372036854775807) (ha : ∀ n ∈ q.arrays, -9223372036854775808 ≤ n ∧ n ≤ 9223372036854775807) : readP (splitC 10 (cpText q)) = q := by
  obtain ⟨c, v, a⟩ := q
  simp only at hop hn hv ha
  rw [lines_of]
  simp only
  have h1 : ∀ l : List Ins, (∀ i ∈ l, 1 ≤ i.op ∧ i.op ≤ 29) → (∀ i ∈ l, -9223372036854775808 ≤ i.n ∧ i.n ≤ 9223372036854775807) → (l.map body).map lineOf = l := fun l hl hk => by
    induction l with
    | nil => rfl
    | cons i l ih =>
      rw [List.map_cons, List.map_cons, line_body i (hl i (by simp)).1 (hl i (by simp)).2 (hk i (by simp)), ih (fun x hx => hl x (by simp [hx])) (fun x hx => hk x (by simp [hx]))]
  unfold readP
  have e2 : atoiO [97, 114, 114, 97, 121, 115] = none := rfl
  have e3 : Lib.trimPrefix ([118, 97, 114, 115, 32] ++ Lib.itoa v) [118, 97, 114, 115, 32] = Lib.itoa v := by simp [Lib.trimPrefix, Lib.hasPrefix]
  simp only [List.getD_cons_zero, List.getD_cons_succ, List.length_cons, List.length_append, List.length_nil, List.length_map]
  rw [e3, atoiV_itoa v hv.1 hv.2, fields_arr, List.filterMap_cons, e2, filter_itoa a ha]
  have e4 : (([118, 97, 114, 115, 32] ++ Lib.itoa v) :: ([97, 114, 114, 97, 121, 115] ++ arrText a) :: (c.map body ++ [[]])).take (c.length + (0 + 1) + 1 + 1 - 1) = ([118, 97, 114, 115, 32] ++ Lib.itoa v) :: ([97, 114, 114, 97, 121, 115] ++ arrText a) :: c.map body := by
    rw [show c.length + (0 + 1) + 1 + 1 - 1 = c.length + 1 + 1 by omega, List.take_succ_cons, List.take_succ_cons, List.take_append_of_le_length (by simp), List.take_of_length_le (by simp)]
  rw [e4]
  simp only [List.drop_succ_cons, List.drop_zero]
  rw [h1 c hop hn]
end Go.Proofs.YtgphigpbgiceiaaGreatDoor
