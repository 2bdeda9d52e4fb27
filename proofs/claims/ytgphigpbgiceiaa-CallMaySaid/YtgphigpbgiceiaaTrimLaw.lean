/- What is trim by letters is trim by fields. -/
import Derived.Test.YtgphigpbgiceiaaClTrim
namespace Go.Proofs.Ytgphigpbgiceiaa
open Go.RowKit Go.Sort
set_option linter.unusedVariables false
set_option linter.unusedSimpArgs false

/-- Fields and letters, of one kind. -/
theorem trim_law (c : Cl) (hop : 0 ≤ c.op ∧ c.op ≤ 255) (lf : List Int) (ls : List UInt8) (hF : usesF c.kind = some lf) (hS : usesS c.kind = ls) (hne : ls ≠ [])
    (h : lf.foldl (stepF c) (initF c) = ⟨c.kind, pickI (ls.contains 99) c.comm, pickI (ls.contains 112) c.peer, pickI (ls.contains 116) c.tag, pickI (ls.contains 118) c.value, pickI (ls.contains 115) c.size, pickI (ls.contains 114) c.root, pickI (ls.contains 111) c.op, pickL (ls.contains 108) c.reqs, pickI (ls.contains 107) c.color, pickI (ls.contains 107) c.key⟩) : trimF c = rtrim c := by
  unfold trimF rtrim
  rw [hF, hS, if_neg hne]
  exact h
theorem trim_same (c : Cl) (hop : 0 ≤ c.op ∧ c.op ≤ 255) : trimF c = rtrim c := by
  have hm : c.op % 256 = c.op := by omega
  by_cases k1 : c.kind = 1 ∨ c.kind = 2 ∨ c.kind = 3 ∨ c.kind = 4 ∨ c.kind = 5
  · exact trim_law c hop [0, 1, 2, 3, 4] [99, 112, 116, 118, 115] (by unfold usesF; rw [if_pos k1]) (by unfold usesS; rw [if_pos k1]) (by simp) (by simp [stepF, setF, getF, initF, pickI, pickL, hm])
  by_cases k2 : c.kind = 6 ∨ c.kind = 7 ∨ c.kind = 13 ∨ c.kind = 14
  · exact trim_law c hop [0, 1, 2] [99, 112, 116] (by unfold usesF; rw [if_neg k1, if_pos k2]) (by unfold usesS; rw [if_neg k1, if_pos k2]) (by simp) (by simp [stepF, setF, getF, initF, pickI, pickL, hm])
  by_cases k3 : c.kind = 8 ∨ c.kind = 9 ∨ c.kind = 10 ∨ c.kind = 11 ∨ c.kind = 12
  · exact trim_law c hop [8] [108] (by unfold usesF; rw [if_neg k1, if_neg k2, if_pos k3]) (by unfold usesS; rw [if_neg k1, if_neg k2, if_pos k3]) (by simp) (by simp [stepF, setF, getF, initF, pickI, pickL, hm])
  by_cases k4 : c.kind = 15 ∨ c.kind = 20 ∨ c.kind = 22
  · exact trim_law c hop [0] [99] (by unfold usesF; rw [if_neg k1, if_neg k2, if_neg k3, if_pos k4]) (by unfold usesS; rw [if_neg k1, if_neg k2, if_neg k3, if_pos k4]) (by simp) (by simp [stepF, setF, getF, initF, pickI, pickL, hm])
  by_cases k5 : c.kind = 16 ∨ c.kind = 19
  · exact trim_law c hop [0, 5, 3] [99, 114, 118] (by unfold usesF; rw [if_neg k1, if_neg k2, if_neg k3, if_neg k4, if_pos k5]) (by unfold usesS; rw [if_neg k1, if_neg k2, if_neg k3, if_neg k4, if_pos k5]) (by simp) (by simp [stepF, setF, getF, initF, pickI, pickL, hm])
  by_cases k6 : c.kind = 17
  · exact trim_law c hop [0, 5, 3, 9] [99, 114, 118, 111] (by unfold usesF; rw [if_neg k1, if_neg k2, if_neg k3, if_neg k4, if_neg k5, if_pos k6]) (by unfold usesS; rw [if_neg k1, if_neg k2, if_neg k3, if_neg k4, if_neg k5, if_pos k6]) (by simp) (by simp [stepF, setF, getF, initF, pickI, pickL, hm])
  by_cases k7 : c.kind = 18
  · exact trim_law c hop [0, 3, 9] [99, 118, 111] (by unfold usesF; rw [if_neg k1, if_neg k2, if_neg k3, if_neg k4, if_neg k5, if_neg k6, if_pos k7]) (by unfold usesS; rw [if_neg k1, if_neg k2, if_neg k3, if_neg k4, if_neg k5, if_neg k6, if_pos k7]) (by simp) (by simp [stepF, setF, getF, initF, pickI, pickL, hm])
  by_cases k8 : c.kind = 21
  · exact trim_law c hop [0, 6, 7] [99, 107] (by unfold usesF; rw [if_neg k1, if_neg k2, if_neg k3, if_neg k4, if_neg k5, if_neg k6, if_neg k7, if_pos k8]) (by unfold usesS; rw [if_neg k1, if_neg k2, if_neg k3, if_neg k4, if_neg k5, if_neg k6, if_neg k7, if_pos k8]) (by simp) (by simp [stepF, setF, getF, initF, pickI, pickL, hm])
  unfold trimF rtrim
  rw [show usesF c.kind = none by unfold usesF; rw [if_neg k1, if_neg k2, if_neg k3, if_neg k4, if_neg k5, if_neg k6, if_neg k7, if_neg k8], show usesS c.kind = [] by unfold usesS; rw [if_neg k1, if_neg k2, if_neg k3, if_neg k4, if_neg k5, if_neg k6, if_neg k7, if_neg k8]]
  rfl
end Go.Proofs.Ytgphigpbgiceiaa
