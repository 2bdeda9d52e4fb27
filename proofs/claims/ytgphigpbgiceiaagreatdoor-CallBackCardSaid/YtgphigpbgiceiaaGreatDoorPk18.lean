/- Plain laws of chapter 16's results: what a result tells, as bytes. · The text of a call, plainly. -/
import Derived.Test.YtgphigpbgiceiaaGreatDoorCodeI
import Derived.Lib.Join
import Derived.Lib.Space
import Derived.Test.YtgphigpbgiceiaaGreatDoorPk10
import Derived.Test.YtgphigpbgiceiaaGreatDoorClSame
import Derived.Test.YtgphigpbgiceiaaGreatDoorMayC
namespace Go.Proofs.YtgphigpbgiceiaaGreatDoor
set_option linter.unusedVariables false
set_option linter.unusedSimpArgs false

theorem join_arr : ∀ (l : List Int) (n : Int), 32 :: Lib.join ((n :: l).map Lib.itoa) [32] = arrText (n :: l) := by
  intro l n
  have h : ∀ r : List Int, Lib.joinTail [32] (r.map Lib.itoa) = arrText r := fun r => by
    induction r with
    | nil => rfl
    | cons m r ih =>
      have e : arrText (m :: r) = 32 :: (Lib.itoa m ++ arrText r) := rfl
      rw [e, ← ih]
      simp [Lib.joinTail]
  have e : arrText (n :: l) = 32 :: (Lib.itoa n ++ arrText l) := rfl
  rw [List.map_cons, Lib.join_cons, h, e]
theorem arr_last : ∀ (l : List Int) (h : arrText l ≠ []), Lib.isSp ((arrText l).getLast h) = false
  | [], h => absurd rfl h
  | n :: l, h => by
    have e : arrText (n :: l) = [32] ++ Lib.itoa n ++ arrText l := rfl
    by_cases hl : arrText l = []
    · have e2 : arrText (n :: l) = [32] ++ Lib.itoa n := by rw [e, hl, List.append_nil]
      have hne := itoa_ne n
      simp only [e2]
      rw [List.getLast_append_of_ne_nil _ hne]
      have hb := itoa_bytes n _ (List.getLast_mem hne)
      generalize (Lib.itoa n).getLast hne = b at *
      have ne : ∀ c : UInt8, c.toNat < 45 → (b == c) = false := fun c hc => by
        rw [beq_eq_false_iff_ne]
        intro e
        subst e
        omega
      unfold Lib.isSp
      rw [ne 9 (by decide), ne 10 (by decide), ne 11 (by decide), ne 12 (by decide), ne 13 (by decide), ne 32 (by decide)]
      rfl
    · simp only [e]
      rw [List.getLast_append_of_ne_nil _ hl]
      exact arr_last l hl
theorem trim_whole (l : List UInt8) (h : l ≠ []) (h1 : Lib.isSp (l.head h) = false) (h2 : Lib.isSp (l.getLast h) = false) : Lib.trimSpace l = l := by
  have d : ∀ (m : List UInt8) (hm : m ≠ []), Lib.isSp (m.head hm) = false → m.dropWhile Lib.isSp = m := fun m hm hh => by
    cases m with
    | nil => exact absurd rfl hm
    | cons x m => rw [List.dropWhile_cons, if_neg (by rw [show Lib.isSp x = false from hh]; decide)]
  unfold Lib.trimSpace
  rw [d l h h1]
  have hr : l.reverse ≠ [] := by simpa using h
  rw [d l.reverse hr (by rw [List.head_reverse]; exact h2), List.reverse_reverse]
/-- "row" and its numbers, a blank ahead of each. -/
theorem trim_row (l : List Int) : Lib.trimSpace ([114, 111, 119, 32] ++ Lib.join (l.map Lib.itoa) [32]) = [114, 111, 119] ++ arrText l := by
  cases l with
  | nil => rfl
  | cons n l =>
    have e : ([114, 111, 119, 32] : List UInt8) ++ Lib.join ((n :: l).map Lib.itoa) [32] = [114, 111, 119] ++ arrText (n :: l) := by
      rw [← join_arr l n]
      rfl
    rw [e]
    have hne : arrText (n :: l) ≠ [] := by
      have e : arrText (n :: l) = 32 :: (Lib.itoa n ++ arrText l) := rfl
      rw [e]
      simp
    refine trim_whole _ (by simp) (by rfl) ?_
    rw [List.getLast_append_of_ne_nil _ hne]
    exact arr_last _ hne
/-- What a result tells. -/
def toldF (k : Int) (flag : Bool) (v p t r i c : Int) (l : List Int) : List UInt8 :=
  let value := [118, 97, 108, 117, 101, 32] ++ Lib.itoa v
  let peer := [112, 101, 101, 114, 32] ++ Lib.itoa p ++ [32, 116, 97, 103, 32] ++ Lib.itoa t
  let fl := [102, 108, 97, 103, 32] ++ (if flag then [49] else [48])
  let row := [114, 111, 119] ++ arrText l
  if k = 4 ∨ k = 5 ∨ k = 7 then [114, 101, 113, 32] ++ Lib.itoa r
  else if k = 6 ∨ k = 8 then value ++ [32] ++ peer
  else if k = 9 then value ++ [32] ++ peer ++ [32] ++ row
  else if k = 10 ∨ k = 11 ∨ k = 12 then fl ++ [32, 105, 110, 100, 101, 120, 32] ++ Lib.itoa i ++ [32] ++ value ++ [32] ++ peer
  else if k = 13 ∨ k = 14 then fl ++ [32] ++ peer
  else if k = 16 ∨ k = 17 ∨ k = 18 then value
  else if k = 19 then row
  else if k = 20 ∨ k = 21 then [99, 111, 109, 109, 32] ++ Lib.itoa c
  else []
end Go.Proofs.YtgphigpbgiceiaaGreatDoor
namespace Go.Proofs.YtgphigpbgiceiaaGreatDoor
set_option linter.unusedVariables false
set_option linter.unusedSimpArgs false

/-- The words of calls, of operations. -/
def clWords : List (List UInt8) := [[115, 101, 110, 100], [115, 115, 101, 110, 100], [98, 115, 101, 110, 100], [105, 115, 101, 110, 100], [105, 115, 115, 101, 110, 100], [114, 101, 99, 118], [105, 114, 101, 99, 118], [119, 97, 105, 116], [119, 97, 105, 116, 97, 108, 108], [119, 97, 105, 116, 97, 110, 121], [116, 101, 115, 116], [116, 101, 115, 116, 97, 110, 121], [112, 114, 111, 98, 101], [105, 112, 114, 111, 98, 101], [98, 97, 114, 114, 105, 101, 114], [98, 99, 97, 115, 116], [114, 101, 100, 117, 99, 101], [97, 108, 108, 114, 101, 100, 117, 99, 101], [103, 97, 116, 104, 101, 114], [100, 117, 112], [115, 112, 108, 105, 116], [102, 114, 101, 101]]
def clReds : List (List UInt8) := [[115, 117, 109], [109, 97, 120], [109, 105, 110]]
def wordK (k : Int) : List UInt8 := if 1 ≤ k ∧ k ≤ 22 then clWords.getD (k - 1).toNat [] else []
def redK (n : Int) : List UInt8 := clReds.getD n.toNat []
/-- What stands between the brackets: the numbers. -/
def clNums (c : Cl) (ul : List Int) : List Int := ul.flatMap fun f => if f = 8 then c.reqs else if f = 9 then [] else [getF c f.toNat]
def clText (c : Cl) (ul : List Int) : List UInt8 := wordK c.kind ++ [40] ++ Lib.join ((clNums c ul).map Lib.itoa) [44, 32] ++ (if ul.contains 9 then [44, 32] ++ redK c.op else []) ++ [41]
/-- Has a call a text? -/
def textB (c : Cl) : Bool := (usesF c.kind).isSome && c.same (trimF c) && decide (c.op ≤ 2) && (!(((usesF c.kind).getD [])[0]? == some 8) || listedB c)
/-- The text, or none; and what is told. -/
def textOfC (c : Cl) : List UInt8 := if textB c = true then clText c ((usesF c.kind).getD []) else []
def errOfC (c : Cl) : Int := if textB c = true then 0 else 160
theorem clNums_take (c : Cl) (ul : List Int) (k : Nat) (hk : k < ul.length) : clNums c (ul.take (k + 1)) = clNums c (ul.take k) ++ (if ul[k] = 8 then c.reqs else if ul[k] = 9 then [] else [getF c ul[k].toNat]) := by
  unfold clNums
  rw [List.take_succ_eq_append_getElem hk, List.flatMap_append]
  simp
end Go.Proofs.YtgphigpbgiceiaaGreatDoor
