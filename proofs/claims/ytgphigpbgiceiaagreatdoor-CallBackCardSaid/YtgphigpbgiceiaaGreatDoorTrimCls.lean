/- Plain laws of calls that are trim, by the classes of kinds. (printed by a program) -/
import Derived.Test.YtgphigpbgiceiaaGreatDoorTrimOk
namespace Go.Proofs.YtgphigpbgiceiaaGreatDoor
set_option linter.unusedVariables false
set_option linter.unusedSimpArgs false

theorem trim_cls (c : Cl) (ho : 0 ≤ c.op ∧ c.op ≤ 255) :
    ((c.kind = 1 ∨ c.kind = 2 ∨ c.kind = 3 ∨ c.kind = 4 ∨ c.kind = 5) ∧ usesF c.kind = some [0, 1, 2, 3, 4] ∧ trimF c = ⟨c.kind, c.comm, c.peer, c.tag, c.value, c.size, 0, 0, [], 0, 0⟩) ∨ ((c.kind = 6 ∨ c.kind = 7 ∨ c.kind = 13 ∨ c.kind = 14) ∧ usesF c.kind = some [0, 1, 2] ∧ trimF c = ⟨c.kind, c.comm, c.peer, c.tag, 0, 0, 0, 0, [], 0, 0⟩) ∨ ((c.kind = 8 ∨ c.kind = 9 ∨ c.kind = 10 ∨ c.kind = 11 ∨ c.kind = 12) ∧ usesF c.kind = some [8] ∧ trimF c = ⟨c.kind, 0, 0, 0, 0, 0, 0, 0, c.reqs, 0, 0⟩) ∨ ((c.kind = 15 ∨ c.kind = 20 ∨ c.kind = 22) ∧ usesF c.kind = some [0] ∧ trimF c = ⟨c.kind, c.comm, 0, 0, 0, 0, 0, 0, [], 0, 0⟩) ∨ ((c.kind = 16 ∨ c.kind = 19) ∧ usesF c.kind = some [0, 5, 3] ∧ trimF c = ⟨c.kind, c.comm, 0, 0, c.value, 0, c.root, 0, [], 0, 0⟩) ∨ ((c.kind = 17) ∧ usesF c.kind = some [0, 5, 3, 9] ∧ trimF c = ⟨c.kind, c.comm, 0, 0, c.value, 0, c.root, c.op, [], 0, 0⟩) ∨ ((c.kind = 18) ∧ usesF c.kind = some [0, 3, 9] ∧ trimF c = ⟨c.kind, c.comm, 0, 0, c.value, 0, 0, c.op, [], 0, 0⟩) ∨ ((c.kind = 21) ∧ usesF c.kind = some [0, 6, 7] ∧ trimF c = ⟨c.kind, c.comm, 0, 0, 0, 0, 0, 0, [], c.color, c.key⟩) ∨ ((¬ (c.kind = 1 ∨ c.kind = 2 ∨ c.kind = 3 ∨ c.kind = 4 ∨ c.kind = 5) ∧ ¬ (c.kind = 6 ∨ c.kind = 7 ∨ c.kind = 13 ∨ c.kind = 14) ∧ ¬ (c.kind = 8 ∨ c.kind = 9 ∨ c.kind = 10 ∨ c.kind = 11 ∨ c.kind = 12) ∧ ¬ (c.kind = 15 ∨ c.kind = 20 ∨ c.kind = 22) ∧ ¬ (c.kind = 16 ∨ c.kind = 19) ∧ ¬ (c.kind = 17) ∧ ¬ (c.kind = 18) ∧ ¬ (c.kind = 21)) ∧ usesF c.kind = none ∧ trimF c = zeroCl) := by
  have hm : c.op % 256 = c.op := by omega
  by_cases k1 : c.kind = 1 ∨ c.kind = 2 ∨ c.kind = 3 ∨ c.kind = 4 ∨ c.kind = 5
  · have hu : usesF c.kind = some [0, 1, 2, 3, 4] := by unfold usesF; rw [if_pos k1]
    refine (.inl ⟨k1, hu, ?_⟩)
    unfold trimF
    rw [hu]
    simp [stepF, setF, getF, initF, hm]
  by_cases k2 : c.kind = 6 ∨ c.kind = 7 ∨ c.kind = 13 ∨ c.kind = 14
  · have hu : usesF c.kind = some [0, 1, 2] := by unfold usesF; rw [if_neg k1, if_pos k2]
    refine (.inr (.inl ⟨k2, hu, ?_⟩))
    unfold trimF
    rw [hu]
    simp [stepF, setF, getF, initF, hm]
  by_cases k3 : c.kind = 8 ∨ c.kind = 9 ∨ c.kind = 10 ∨ c.kind = 11 ∨ c.kind = 12
  · have hu : usesF c.kind = some [8] := by unfold usesF; rw [if_neg k1, if_neg k2, if_pos k3]
    refine (.inr (.inr (.inl ⟨k3, hu, ?_⟩)))
    unfold trimF
    rw [hu]
    simp [stepF, setF, getF, initF, hm]
  by_cases k4 : c.kind = 15 ∨ c.kind = 20 ∨ c.kind = 22
  · have hu : usesF c.kind = some [0] := by unfold usesF; rw [if_neg k1, if_neg k2, if_neg k3, if_pos k4]
    refine (.inr (.inr (.inr (.inl ⟨k4, hu, ?_⟩))))
    unfold trimF
    rw [hu]
    simp [stepF, setF, getF, initF, hm]
  by_cases k5 : c.kind = 16 ∨ c.kind = 19
  · have hu : usesF c.kind = some [0, 5, 3] := by unfold usesF; rw [if_neg k1, if_neg k2, if_neg k3, if_neg k4, if_pos k5]
    refine (.inr (.inr (.inr (.inr (.inl ⟨k5, hu, ?_⟩)))))
    unfold trimF
    rw [hu]
    simp [stepF, setF, getF, initF, hm]
  by_cases k6 : c.kind = 17
  · have hu : usesF c.kind = some [0, 5, 3, 9] := by unfold usesF; rw [if_neg k1, if_neg k2, if_neg k3, if_neg k4, if_neg k5, if_pos k6]
    refine (.inr (.inr (.inr (.inr (.inr (.inl ⟨k6, hu, ?_⟩))))))
    unfold trimF
    rw [hu]
    simp [stepF, setF, getF, initF, hm]
  by_cases k7 : c.kind = 18
  · have hu : usesF c.kind = some [0, 3, 9] := by unfold usesF; rw [if_neg k1, if_neg k2, if_neg k3, if_neg k4, if_neg k5, if_neg k6, if_pos k7]
    refine (.inr (.inr (.inr (.inr (.inr (.inr (.inl ⟨k7, hu, ?_⟩)))))))
    unfold trimF
    rw [hu]
    simp [stepF, setF, getF, initF, hm]
  by_cases k8 : c.kind = 21
  · have hu : usesF c.kind = some [0, 6, 7] := by unfold usesF; rw [if_neg k1, if_neg k2, if_neg k3, if_neg k4, if_neg k5, if_neg k6, if_neg k7, if_pos k8]
    refine (.inr (.inr (.inr (.inr (.inr (.inr (.inr (.inl ⟨k8, hu, ?_⟩))))))))
    unfold trimF
    rw [hu]
    simp [stepF, setF, getF, initF, hm]
  have hu : usesF c.kind = none := by unfold usesF; rw [if_neg k1, if_neg k2, if_neg k3, if_neg k4, if_neg k5, if_neg k6, if_neg k7, if_neg k8]
  refine (.inr (.inr (.inr (.inr (.inr (.inr (.inr (.inr ⟨⟨k1, k2, k3, k4, k5, k6, k7, k8⟩, hu, ?_⟩))))))))
  unfold trimF
  rw [hu]
/-- What is trim is its own. -/
theorem trim_twice (c : Cl) (ho : 0 ≤ c.op ∧ c.op ≤ 255) : trimF (trimF c) = trimF c := by
  have hm : c.op % 256 = c.op := by omega
  rcases trim_cls c ho with ⟨hk, hu, hT⟩ | ⟨hk, hu, hT⟩ | ⟨hk, hu, hT⟩ | ⟨hk, hu, hT⟩ | ⟨hk, hu, hT⟩ | ⟨hk, hu, hT⟩ | ⟨hk, hu, hT⟩ | ⟨hk, hu, hT⟩ | ⟨hk, hu, hT⟩
  · rw [hT]
    unfold trimF
    show (match usesF c.kind with | some l => l.foldl (stepF ⟨c.kind, c.comm, c.peer, c.tag, c.value, c.size, 0, 0, [], 0, 0⟩) (initF ⟨c.kind, c.comm, c.peer, c.tag, c.value, c.size, 0, 0, [], 0, 0⟩) | none => zeroCl) = _
    rw [hu]
    simp [stepF, setF, getF, initF, hm]
  · rw [hT]
    unfold trimF
    show (match usesF c.kind with | some l => l.foldl (stepF ⟨c.kind, c.comm, c.peer, c.tag, 0, 0, 0, 0, [], 0, 0⟩) (initF ⟨c.kind, c.comm, c.peer, c.tag, 0, 0, 0, 0, [], 0, 0⟩) | none => zeroCl) = _
    rw [hu]
    simp [stepF, setF, getF, initF, hm]
  · rw [hT]
    unfold trimF
    show (match usesF c.kind with | some l => l.foldl (stepF ⟨c.kind, 0, 0, 0, 0, 0, 0, 0, c.reqs, 0, 0⟩) (initF ⟨c.kind, 0, 0, 0, 0, 0, 0, 0, c.reqs, 0, 0⟩) | none => zeroCl) = _
    rw [hu]
    simp [stepF, setF, getF, initF, hm]
  · rw [hT]
    unfold trimF
    show (match usesF c.kind with | some l => l.foldl (stepF ⟨c.kind, c.comm, 0, 0, 0, 0, 0, 0, [], 0, 0⟩) (initF ⟨c.kind, c.comm, 0, 0, 0, 0, 0, 0, [], 0, 0⟩) | none => zeroCl) = _
    rw [hu]
    simp [stepF, setF, getF, initF, hm]
  · rw [hT]
    unfold trimF
    show (match usesF c.kind with | some l => l.foldl (stepF ⟨c.kind, c.comm, 0, 0, c.value, 0, c.root, 0, [], 0, 0⟩) (initF ⟨c.kind, c.comm, 0, 0, c.value, 0, c.root, 0, [], 0, 0⟩) | none => zeroCl) = _
    rw [hu]
    simp [stepF, setF, getF, initF, hm]
  · rw [hT]
    unfold trimF
    show (match usesF c.kind with | some l => l.foldl (stepF ⟨c.kind, c.comm, 0, 0, c.value, 0, c.root, c.op, [], 0, 0⟩) (initF ⟨c.kind, c.comm, 0, 0, c.value, 0, c.root, c.op, [], 0, 0⟩) | none => zeroCl) = _
    rw [hu]
    simp [stepF, setF, getF, initF, hm]
  · rw [hT]
    unfold trimF
    show (match usesF c.kind with | some l => l.foldl (stepF ⟨c.kind, c.comm, 0, 0, c.value, 0, 0, c.op, [], 0, 0⟩) (initF ⟨c.kind, c.comm, 0, 0, c.value, 0, 0, c.op, [], 0, 0⟩) | none => zeroCl) = _
    rw [hu]
    simp [stepF, setF, getF, initF, hm]
  · rw [hT]
    unfold trimF
    show (match usesF c.kind with | some l => l.foldl (stepF ⟨c.kind, c.comm, 0, 0, 0, 0, 0, 0, [], c.color, c.key⟩) (initF ⟨c.kind, c.comm, 0, 0, 0, 0, 0, 0, [], c.color, c.key⟩) | none => zeroCl) = _
    rw [hu]
    simp [stepF, setF, getF, initF, hm]
  · rw [hT]
    rfl
theorem trim_kind (c : Cl) (ho : 0 ≤ c.op ∧ c.op ≤ 255) (h : (usesF c.kind).isSome = true) : (trimF c).kind = c.kind := by
  rcases trim_cls c ho with ⟨hk, hu, hT⟩ | ⟨hk, hu, hT⟩ | ⟨hk, hu, hT⟩ | ⟨hk, hu, hT⟩ | ⟨hk, hu, hT⟩ | ⟨hk, hu, hT⟩ | ⟨hk, hu, hT⟩ | ⟨hk, hu, hT⟩ | ⟨hk, hu, hT⟩
  · rw [hT]
  · rw [hT]
  · rw [hT]
  · rw [hT]
  · rw [hT]
  · rw [hT]
  · rw [hT]
  · rw [hT]
  · rw [hu] at h
    cases h
/-- What may be, may be trim. -/
theorem may_trim (c : Cl) (ho : 0 ≤ c.op ∧ c.op ≤ 255) (g : List Int) : mayB (trimF c) g (usesF (trimF c).kind) = mayB c g (usesF c.kind) := by
  rcases trim_cls c ho with ⟨hk, hu, hT⟩ | ⟨hk, hu, hT⟩ | ⟨hk, hu, hT⟩ | ⟨hk, hu, hT⟩ | ⟨hk, hu, hT⟩ | ⟨hk, hu, hT⟩ | ⟨hk, hu, hT⟩ | ⟨hk, hu, hT⟩ | ⟨hk, hu, hT⟩
  · rw [hT]
    show mayB ⟨c.kind, c.comm, c.peer, c.tag, c.value, c.size, 0, 0, [], 0, 0⟩ g (usesF c.kind) = _
    rw [hu]
    simp [mayB, fieldB, listedB]
  · rw [hT]
    show mayB ⟨c.kind, c.comm, c.peer, c.tag, 0, 0, 0, 0, [], 0, 0⟩ g (usesF c.kind) = _
    rw [hu]
    simp [mayB, fieldB, listedB]
  · rw [hT]
    show mayB ⟨c.kind, 0, 0, 0, 0, 0, 0, 0, c.reqs, 0, 0⟩ g (usesF c.kind) = _
    rw [hu]
    simp [mayB, fieldB, listedB]
  · rw [hT]
    show mayB ⟨c.kind, c.comm, 0, 0, 0, 0, 0, 0, [], 0, 0⟩ g (usesF c.kind) = _
    rw [hu]
    simp [mayB, fieldB, listedB]
  · rw [hT]
    show mayB ⟨c.kind, c.comm, 0, 0, c.value, 0, c.root, 0, [], 0, 0⟩ g (usesF c.kind) = _
    rw [hu]
    simp [mayB, fieldB, listedB]
  · rw [hT]
    show mayB ⟨c.kind, c.comm, 0, 0, c.value, 0, c.root, c.op, [], 0, 0⟩ g (usesF c.kind) = _
    rw [hu]
    simp [mayB, fieldB, listedB]
  · rw [hT]
    show mayB ⟨c.kind, c.comm, 0, 0, c.value, 0, 0, c.op, [], 0, 0⟩ g (usesF c.kind) = _
    rw [hu]
    simp [mayB, fieldB, listedB]
  · rw [hT]
    show mayB ⟨c.kind, c.comm, 0, 0, 0, 0, 0, 0, [], c.color, c.key⟩ g (usesF c.kind) = _
    rw [hu]
    simp [mayB, fieldB, listedB]
  · rw [hT, hu]
    rfl
theorem dec_trim (c : Cl) (ho : 0 ≤ c.op ∧ c.op ≤ 255) : decB (trimF c) = decB c := by
  rcases trim_cls c ho with ⟨hk, hu, hT⟩ | ⟨hk, hu, hT⟩ | ⟨hk, hu, hT⟩ | ⟨hk, hu, hT⟩ | ⟨hk, hu, hT⟩ | ⟨hk, hu, hT⟩ | ⟨hk, hu, hT⟩ | ⟨hk, hu, hT⟩ | ⟨hk, hu, hT⟩
  · rw [hT]
    rcases hk with hk | hk | hk | hk | hk
    all_goals simp [decB, openK, hk]
  · rw [hT]
    rcases hk with hk | hk | hk | hk
    all_goals simp [decB, openK, hk]
  · rw [hT]
    rcases hk with hk | hk | hk | hk | hk
    all_goals simp [decB, openK, hk]
  · rw [hT]
    rcases hk with hk | hk | hk
    all_goals simp [decB, openK, hk]
  · rw [hT]
    rcases hk with hk | hk
    all_goals simp [decB, openK, hk]
  · rw [hT]
    rcases hk with hk
    all_goals simp [decB, openK, hk]
  · rw [hT]
    rcases hk with hk
    all_goals simp [decB, openK, hk]
  · rw [hT]
    rcases hk with hk
    all_goals simp [decB, openK, hk]
  · rw [hT]
    have h : decB c = false := by
      obtain ⟨k1, k2, k3, k4, k5, k6, k7, k8⟩ := hk
      have e1 : (c.kind == 10) = false := by simp; omega
      have e2 : (c.kind == 11) = false := by simp; omega
      have e3 : (c.kind == 12) = false := by simp; omega
      have e4 : (c.kind == 14) = false := by simp; omega
      have e5 : openK c.kind = false := by
        unfold openK
        simp
        omega
      simp [decB, e1, e2, e3, e4, e5]
    rw [h]
    rfl
/-- What may be, trim, has a text. -/
theorem may_text (c : Cl) (ho : 0 ≤ c.op ∧ c.op ≤ 255) (g : List Int) (h : mayB c g (usesF c.kind) = true) : textB (trimF c) = true := by
  have h2 := trim_twice c ho
  have hs : (trimF c).same (trimF (trimF c)) = true := by rw [h2]; exact (Cl.same_iff _ _).2 rfl
  unfold textB
  rw [hs]
  rcases trim_cls c ho with ⟨hk, hu, hT⟩ | ⟨hk, hu, hT⟩ | ⟨hk, hu, hT⟩ | ⟨hk, hu, hT⟩ | ⟨hk, hu, hT⟩ | ⟨hk, hu, hT⟩ | ⟨hk, hu, hT⟩ | ⟨hk, hu, hT⟩ | ⟨hk, hu, hT⟩
  · rw [hT]
    show ((usesF c.kind).isSome && true && _ && (!(((usesF c.kind).getD [])[0]? == some 8) || _)) = true
    rw [hu] at h ⊢
    simp [mayB, fieldB, listedB] at h ⊢
  · rw [hT]
    show ((usesF c.kind).isSome && true && _ && (!(((usesF c.kind).getD [])[0]? == some 8) || _)) = true
    rw [hu] at h ⊢
    simp [mayB, fieldB, listedB] at h ⊢
  · rw [hT]
    show ((usesF c.kind).isSome && true && _ && (!(((usesF c.kind).getD [])[0]? == some 8) || _)) = true
    rw [hu] at h ⊢
    simp [mayB, fieldB, listedB] at h ⊢
    exact h.2.1
  · rw [hT]
    show ((usesF c.kind).isSome && true && _ && (!(((usesF c.kind).getD [])[0]? == some 8) || _)) = true
    rw [hu] at h ⊢
    simp [mayB, fieldB, listedB] at h ⊢
  · rw [hT]
    show ((usesF c.kind).isSome && true && _ && (!(((usesF c.kind).getD [])[0]? == some 8) || _)) = true
    rw [hu] at h ⊢
    simp [mayB, fieldB, listedB] at h ⊢
  · rw [hT]
    show ((usesF c.kind).isSome && true && _ && (!(((usesF c.kind).getD [])[0]? == some 8) || _)) = true
    rw [hu] at h ⊢
    simp [mayB, fieldB, listedB] at h ⊢
    exact h.2.2.2
  · rw [hT]
    show ((usesF c.kind).isSome && true && _ && (!(((usesF c.kind).getD [])[0]? == some 8) || _)) = true
    rw [hu] at h ⊢
    simp [mayB, fieldB, listedB] at h ⊢
    exact h.2.2
  · rw [hT]
    show ((usesF c.kind).isSome && true && _ && (!(((usesF c.kind).getD [])[0]? == some 8) || _)) = true
    rw [hu] at h ⊢
    simp [mayB, fieldB, listedB] at h ⊢
  · rw [hu] at h
    cases h
end Go.Proofs.YtgphigpbgiceiaaGreatDoor
