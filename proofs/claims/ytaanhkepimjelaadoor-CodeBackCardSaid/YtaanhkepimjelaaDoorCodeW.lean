/- The walk of dispatcherlaw05.awake. -/
import Derived.Test.YtaanhkepimjelaaDoorCodeA
import Derived.Test.YtaanhkepimjelaaDoorCodeT
namespace Go.Proofs.YtaanhkepimjelaaDoor
open Go.RowKit Go.Sort
set_option linter.unusedVariables false
set_option linter.unusedSimpArgs false

def awA : Cp := ⟨[⟨1, 7⟩, ⟨3, 0⟩, ⟨29, 0⟩], 1, []⟩
def awB : Cp := ⟨[⟨13, 0⟩, ⟨29, 0⟩], 0, []⟩
def awC : Cp := ⟨[⟨22, 0⟩], 0, []⟩
theorem awA_whole : awA.whole = true := by decide
theorem awB_whole : awB.whole = true := by decide
theorem awC_whole : awC.whole = false := by decide
theorem awA_r1 : Reach awA.code 1 1 := Reach.step (c := awA.code) (j := 0) (h := 0) 1 (by decide) .start (by decide) (by decide) (by decide)
theorem awA_r2 : Reach awA.code 2 0 := Reach.step (c := awA.code) (j := 1) (h := 1) 2 (by decide) awA_r1 (by decide) (by decide) (by decide)
theorem awA_s0 : Shut awA.code [0, 1, 0] 0 := fun h1 h2 => ⟨show tkOf ⟨1, 7⟩ ≤ 0 by decide, show (0 : Int) - tkOf ⟨1, 7⟩ + gvOf ⟨1, 7⟩ ≤ 200 by decide, fun w hw => by
  have hw2 : (w : Int) ∈ [(1 : Int)] := hw
  rw [List.mem_singleton] at hw2
  have : w = 1 := by omega
  subst this
  exact ⟨by decide, show (1 : Int) = 0 - tkOf ⟨1, 7⟩ + gvOf ⟨1, 7⟩ by decide⟩⟩
theorem awA_s1 : Shut awA.code [0, 1, 0] 1 := fun h1 h2 => ⟨show tkOf ⟨3, 0⟩ ≤ 1 by decide, show (1 : Int) - tkOf ⟨3, 0⟩ + gvOf ⟨3, 0⟩ ≤ 200 by decide, fun w hw => by
  have hw2 : (w : Int) ∈ [(2 : Int)] := hw
  rw [List.mem_singleton] at hw2
  have : w = 2 := by omega
  subst this
  exact ⟨by decide, show (0 : Int) = 1 - tkOf ⟨3, 0⟩ + gvOf ⟨3, 0⟩ by decide⟩⟩
theorem awA_s2 : Shut awA.code [0, 1, 0] 2 := fun h1 h2 => ⟨show tkOf ⟨29, 0⟩ ≤ 0 by decide, show (0 : Int) - tkOf ⟨29, 0⟩ + gvOf ⟨29, 0⟩ ≤ 200 by decide, fun w hw => by
  have hw2 : (w : Int) ∈ ([] : List Int) := hw
  cases hw2⟩
theorem awA_told : Told awA.code [0, 1, 0] := by
  refine ⟨⟨rfl, fun _ => rfl, fun j hj _ => ?_⟩, fun j hj _ => ?_⟩
  · match j, hj with
    | 0, _ => exact .start
    | 1, _ => exact awA_r1
    | 2, _ => exact awA_r2
  · match j, hj with
    | 0, _ => exact awA_s0
    | 1, _ => exact awA_s1
    | 2, _ => exact awA_s2
theorem awA_may : awA.May := ⟨awA_whole, _, awA_told⟩
theorem awB_not : ¬ awB.May := Cp.may_not (.inr ⟨0, 0, .start, by decide, .inl (by decide)⟩)
theorem awC_not : ¬ awC.May := Cp.may_not (.inl awC_whole)
theorem awA_text : cpText awA = [118, 97, 114, 115, 32, 49, 10, 97, 114, 114, 97, 121, 115, 10, 110, 117, 109, 32, 55, 10, 115, 101, 116, 10, 115, 116, 111, 112, 10] := by
  have h1 : Lib.itoa 1 = [49] := by kernel_rfl
  have h7 : Lib.itoa 7 = [55] := by kernel_rfl
  unfold cpText headText arrText codeText insText awA
  simp only [List.flatMap_cons, List.flatMap_nil, h1, h7]
  decide
theorem cpIn_lit {w : World} {v : Value} {base : Nat} {l : List Ins} {n : Int} (h : w.ownsRow base 33 2 v l.length (insCells l)) (hok : ∀ i ∈ l, i.Ok) (hn : -9223372036854775808 ≤ n ∧ n ≤ 9223372036854775807) :
    ∃ A c, v = .slice A l.length c ∧ CpIn w A c none 0 ⟨l, n, []⟩ := by
  obtain ⟨A, c, rfl, h1, h2, _⟩ := own_shape h
  exact ⟨A, c, rfl, insRow_of_own h, IntRow.nil _, hok, by simp, hn, ⟨h1, h2⟩, by simp⟩
end Go.Proofs.YtaanhkepimjelaaDoor
