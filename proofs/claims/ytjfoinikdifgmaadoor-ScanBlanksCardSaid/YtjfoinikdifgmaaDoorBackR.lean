/- Plain words: what was scanned, joined by blanks, is scanned as the same words. -/
import Derived.Test.YtjfoinikdifgmaaDoorBackQ
import Derived.Test.YtjfoinikdifgmaaDoorSame
namespace Go.Proofs.YtjfoinikdifgmaaDoor
set_option linter.unusedVariables false
set_option linter.unusedSimpArgs false

/-- Words and the bytes that they are of. -/
inductive OfBytes : List Tok → List (List UInt8) → Prop
  | nil : OfBytes [] []
  | cons {x : List UInt8} {a b : Int} {l : List Tok} {xs : List (List UInt8)} (h : WordAt x) (r : OfBytes l xs) : OfBytes ({ ofTok x with line := a, col := b } :: l) (x :: xs)
theorem ofBytes_of : ∀ (l : List Tok), (∀ t ∈ l, ∃ x a b, WordAt x ∧ t = { ofTok x with line := a, col := b }) → ∃ xs, OfBytes l xs
  | [], _ => ⟨[], .nil⟩
  | t :: l, h => by
    obtain ⟨x, a, b, hx, rfl⟩ := h t (by simp)
    obtain ⟨xs, hr⟩ := ofBytes_of l (fun u hu => h u (by simp [hu]))
    exact ⟨x :: xs, .cons hx hr⟩
theorem OfBytes.words {l : List Tok} {xs : List (List UInt8)} (h : OfBytes l xs) : ∀ x ∈ xs, WordAt x := by
  induction h with
  | nil => intro x hx; cases hx
  | cons hx _ ih =>
    intro y hy
    rcases List.mem_cons.1 hy with rfl | hy
    · exact hx
    · exact ih y hy
theorem OfBytes.same {l : List Tok} {xs : List (List UInt8)} (h : OfBytes l xs) : ∀ b : Int, sameToks false l (backToks b xs) = true := by
  induction h with
  | nil => intro b; rfl
  | cons hx _ ih =>
    intro b
    rw [backToks, sameToks, ih]
    unfold tokSame
    simp
theorem OfBytes.length {l : List Tok} {xs : List (List UInt8)} (h : OfBytes l xs) : l.length = xs.length := by
  induction h with
  | nil => rfl
  | cons _ _ ih => simp [ih]
theorem OfBytes.sizes {l : List Tok} {xs : List (List UInt8)} (h : OfBytes l xs) : sizes l = (xs.map List.length).sum := by
  induction h with
  | nil => rfl
  | cons _ _ ih =>
    rw [Go.Proofs.YtjfoinikdifgmaaDoor.sizes, ih]
    have : ∀ x : List UInt8, (ofTok x).text.size = x.length := fun x => bytesOf_size x
    simp [this]
/-- ScanBack, plainly. -/
theorem scan_back {l : List UInt8} (hl : l.length ≤ 8000) : ∃ xs, OfBytes (scanOf l).1 xs ∧ (joinB xs).length ≤ 16000 ∧ scanOf (joinB xs) = (backToks 1 xs, 0, 0, 0) := by
  obtain ⟨xs, hx⟩ := ofBytes_of (scanOf l).1 scan_words
  have h1 := scan_sizes l
  have h2 := joinB_len xs
  rw [hx.sizes, hx.length] at h1
  refine ⟨xs, hx, by omega, ?_⟩
  rw [scan_is_ref]
  unfold refOf
  rw [if_neg (by omega)]
  have h3 := joinB_ge xs hx.words
  have := ref_join xs hx.words ((joinB xs).length + 1) 1 [] h3
  simpa using this
end Go.Proofs.YtjfoinikdifgmaaDoor
