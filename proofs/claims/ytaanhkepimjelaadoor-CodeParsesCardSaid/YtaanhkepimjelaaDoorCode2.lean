/- The walks of (code.Program).takes, code.ways, dispatcherref05.Takes, fits, ways. -/
import Derived.Test.YtaanhkepimjelaaDoorCode1
import Derived.Sort.Grow
import Derived.Deep.QuietTactic
import Derived.BigQuiet
import Derived.RegionTactic
import Derived.Lib.Hide
namespace Go.Proofs.YtaanhkepimjelaaDoor
open Go.RowKit Go.Sort
set_option linter.unusedVariables false
set_option linter.unusedSimpArgs false

/-- So many draws on, and new blocks behind: nothing else. -/
def Gr (w w' : World) : Prop := ∃ (q : Nat) (os : Array Obj), w' = grow (w.drewN q) os
theorem Gr.refl (w : World) : Gr w w := ⟨0, #[], by rw [grow_empty]; rfl⟩
theorem Gr.alloc {w w' : World} (h : Gr w w') (o : Obj) : Gr w (w'.alloc o) := by
  obtain ⟨q, os, rfl⟩ := h
  exact ⟨q, os ++ #[o], by rw [alloc_eq_grow, grow_grow]⟩
theorem Gr.drew {w w' : World} (h : Gr w w') : Gr w w'.drew := by
  obtain ⟨q, os, rfl⟩ := h
  exact ⟨q + 1, os, rfl⟩
theorem Gr.drewN {w w' : World} (h : Gr w w') (n : Nat) : Gr w (w'.drewN n) := by
  obtain ⟨q, os, rfl⟩ := h
  exact ⟨q + n, os, by rw [← World.drewN_drewN]; rfl⟩
theorem Gr.trans {w w' w'' : World} (h : Gr w w') (h' : Gr w' w'') : Gr w w'' := by
  obtain ⟨q, os, rfl⟩ := h
  obtain ⟨q', os', rfl⟩ := h'
  exact ⟨q + q', os ++ os', by rw [← grow_grow, ← World.drewN_drewN]; rfl⟩
theorem Gr.below {w w' : World} (h : Gr w w') : Below w.heap.size w w' := by
  obtain ⟨q, os, rfl⟩ := h
  exact ⟨rfl, rfl, rfl, by simp [World.drewN], fun k hk => heap_grow_old _ _ hk⟩

theorem op_cases {k : Int} (h0 : 0 ≤ k) (h1 : k ≤ 255) : 29 < k ∨ k = 0 ∨ k = 1 ∨ k = 2 ∨ k = 3 ∨ k = 4 ∨ k = 5 ∨ k = 6 ∨ k = 7 ∨ k = 8 ∨ k = 9 ∨ k = 10 ∨ k = 11 ∨ k = 12 ∨ k = 13 ∨ k = 14 ∨ k = 15 ∨ k = 16 ∨ k = 17 ∨ k = 18 ∨ k = 19 ∨ k = 20 ∨ k = 21 ∨ k = 22 ∨ k = 23 ∨ k = 24 ∨ k = 25 ∨ k = 26 ∨ k = 27 ∨ k = 28 ∨ k = 29 := by omega

theorem op_big {op n v la lc : Int} (h : 29 < op) : tkOf ⟨op, n⟩ = 2 ∧ gvOf ⟨op, n⟩ = 1 ∧ fitsOf v la lc ⟨op, n⟩ = false := by
  unfold tkOf gvOf fitsOf
  simp only
  refine ⟨?_, ?_, ?_⟩
  · rw [if_neg (by omega), if_neg (by omega), if_pos h]
  · rw [if_neg (by omega), if_pos h]
  · rw [if_neg (by omega), if_neg (by omega), if_neg (by omega), if_neg (by omega), if_neg (by omega), if_neg (by omega)]
    simp; omega

set_option maxHeartbeats 8000000 in
set_option maxRecDepth 100000 in
theorem takes_any (A B : Option Addr) (lc c1 la c2 : Nat) (v : Int) (i : Ins) (w : World) (hi : i.Ok) (hl : lc ≤ 9223372036854775807) (hm : la ≤ 9223372036854775807) :
    Calls Tryd.prog 26 #[.agg #[.slice A lc c1, .int .i64 v, .slice B la c2], .agg #[.int .u8 i.op, .int .i64 i.n]] w fun e w' =>
      e = .returned (.tuple #[.int .i64 (tkOf i), .int .i64 (gvOf i), .bool (fitsOf v la lc i)]) ∧ Gr w w' := by
  obtain ⟨op, n⟩ := i
  obtain ⟨⟨h0, h1⟩, h2, h3⟩ := hi
  simp only at h0 h1 h2 h3 ⊢
  have HI := Lib.hid (fun (a b : Int) (w : World) => in_any a b w)
  have HG := Lib.hid (fun (w : World) => args_any n w h2 h3)
  obtain ⟨T, hT⟩ : ∃ T, T = Value.tuple #[.int .i64 (tkOf ⟨op, n⟩), .int .i64 (gvOf ⟨op, n⟩), .bool (fitsOf v la lc ⟨op, n⟩)] := ⟨_, rfl⟩
  rw [← hT]
  rcases op_cases h0 h1 with hk | rfl | rfl | rfl | rfl | rfl | rfl | rfl | rfl | rfl | rfl | rfl | rfl | rfl | rfl | rfl | rfl | rfl | rfl | rfl | rfl | rfl | rfl | rfl | rfl | rfl | rfl | rfl | rfl | rfl | rfl
  · obtain ⟨e1, e2, e3⟩ := op_big (n := n) (v := v) (la := la) (lc := lc) hk
    rw [e1, e2, e3] at hT
    subst hT
    clear e1 e2 e3
    have g1 : decide (10 ≤ op) = true := by simp; omega
    have g2 : decide (op ≤ 20) = false := by simp; omega
    by_cases hn : n = 0
    all_goals
      try subst hn
      go_enter Tryd.func26, Tryd.ntmps26
      go_wp2_with (first | (go_at_call 53; refine (HI.out _ _ _).mono ?_; rintro e w' ⟨rfl, rfl⟩) | (go_at_call 54; refine (HG.out _).mono ?_; rintro e w' ⟨rfl, rfl⟩))
      go_quiet (fail)
      go_wp2_with fail
      go_ret3
      refine ⟨rfl, ?_⟩
      repeat (first | exact Gr.refl _ | apply Gr.drewN | apply Gr.drew | apply Gr.alloc)
  all_goals
    have HT := Lib.hid hT
    clear hT
    by_cases hn : n = 0
    all_goals
      try subst hn
      go_enter Tryd.func26, Tryd.ntmps26
      go_wp2_with (first | (go_at_call 53; refine (HI.out _ _ _).mono ?_; rintro e w' ⟨rfl, rfl⟩) | (go_at_call 54; refine (HG.out _).mono ?_; rintro e w' ⟨rfl, rfl⟩))
      try (go_quiet (fail); go_wp2_with fail)
      go_ret3
      refine ⟨ret_val ?_, ?_⟩
      · rw [HT.out]
        simp [tkOf, gvOf, fitsOf, tkTab, gvTab, *]
      · repeat (first | exact Gr.refl _ | apply Gr.drewN | apply Gr.drew | apply Gr.alloc)
end Go.Proofs.YtaanhkepimjelaaDoor
