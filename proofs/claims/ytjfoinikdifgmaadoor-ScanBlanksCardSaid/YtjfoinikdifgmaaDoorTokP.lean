/- Plain words of chapter 01: how many bytes of blanks or of a remark, which word a text begins with. -/
import Derived.Test.YtjfoinikdifgmaaDoorScanP
import Derived.Test.YtjfoinikdifgmaaDoorNum
import Derived.Lib.IndexLaws
import Derived.Lib.Strings
namespace Go.Proofs.YtjfoinikdifgmaaDoor

structure Tok where
  kind : Int
  text : ByteArray
  num : Int
  line : Int
  col : Int
def notNl (c : Int) : Bool := c != 10
/-- How many bytes of blanks, or of a remark. -/
def blankLen (l : List UInt8) : Nat := if l.head? = some 35 then lead notNl l else lead isBlank l
theorem blankLen_le (l : List UInt8) : blankLen l ≤ l.length := by
  unfold blankLen
  split
  · exact lead_le _ _
  · exact lead_le _ _
theorem indexNl : ∀ (l : List UInt8), Lib.indexByte l 10 = if lead notNl l < l.length then (lead notNl l : Int) else -1
  | [] => by simp [Lib.indexByte, lead]
  | c :: r => by
    have ih := indexNl r
    by_cases h : c = 10
    · subst h
      rw [lead_cons_false (by decide)]
      simp [Lib.indexByte]
    · have h1 : notNl (c.toNat : Int) = true := by
        unfold notNl
        simp only [bne_iff_ne, ne_eq]
        intro e
        apply h
        apply UInt8.toNat_inj.1
        have : c.toNat = 10 := by omega
        rw [this]; rfl
      rw [lead_cons_true h1]
      have h2 : (c == 10) = false := by simpa using h
      unfold Lib.indexByte
      rw [h2, ih]
      have hl : (c :: r).length = r.length + 1 := rfl
      rw [hl]
      by_cases h3 : lead notNl r < r.length
      · rw [if_pos h3, if_pos (show lead notNl r + 1 < r.length + 1 by omega)]
        have h4 : ((lead notNl r : Int) == -1) = false := by simp
        rw [h4]
        simp
      · rw [if_neg h3, if_neg (show ¬ lead notNl r + 1 < r.length + 1 by omega)]
        simp
theorem hasHash (l : List UInt8) : Lib.hasPrefix l [35] = decide (l.head? = some 35) := by
  cases l with
  | nil => rfl
  | cons c r =>
    simp only [Lib.hasPrefix, List.isPrefixOf, List.head?_cons, Option.some.injEq, Bool.and_true]
    rw [Bool.eq_iff_iff, beq_iff_eq, decide_eq_true_eq]
    exact eq_comm
def bytesOf (l : List UInt8) : ByteArray := ⟨l.toArray⟩
/-- The first sign that a text begins with. -/
def signOf (l : List UInt8) : Option ByteArray := scanSigns.find? fun g => Lib.hasPrefix l g.data.toList
def headLetter (l : List UInt8) : Bool := l.head?.any fun c => isLetter (c.toNat : Int)
/-- The word that a text begins with; of no kind: there is none. -/
def firstTok (l : List UInt8) : Tok :=
  if decide (0 < lead isNamed l) && headLetter l then
    ⟨if isWord (bytesOf (l.take (lead isNamed l))) then 3 else if lead isNamed l ≤ 12 then 1 else 0, bytesOf (l.take (lead isNamed l)), 0, 0, 0⟩
  else if 0 < lead isDigit l then
    if numOk (l.take (lead isDigit l)) then ⟨2, bytesOf (l.take (lead isDigit l)), valOf (l.take (lead isDigit l)), 0, 0⟩ else ⟨0, .empty, 0, 0, 0⟩
  else match signOf l with
    | some g => ⟨4, g, 0, 0, 0⟩
    | none => ⟨0, .empty, 0, 0, 0⟩
theorem lead_take_digits (l : List UInt8) : allDigits (l.take (lead isDigit l)) := by
  intro c hc
  have h : l.take (lead isDigit l) = l.takeWhile fun c => isDigit (c.toNat : Int) := by
    unfold lead
    exact (List.prefix_iff_eq_take.1 (List.takeWhile_prefix _)).symm
  rw [h] at hc
  have := List.all_eq_true.1 (List.all_takeWhile (l := l) (p := fun c => isDigit (c.toNat : Int))) c hc
  unfold isDigit at this
  simp at this
  omega
end Go.Proofs.YtjfoinikdifgmaaDoor
