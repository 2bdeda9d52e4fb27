/- The walks of dispatcherref05.fits, ways. -/
import Derived.Test.YtaanhkepimjelaaDoorCode3
namespace Go.Proofs.YtaanhkepimjelaaDoor
open Go.RowKit Go.Sort
set_option linter.unusedVariables false
set_option linter.unusedSimpArgs false

set_option maxHeartbeats 8000000 in
set_option maxRecDepth 100000 in
theorem rfits_any (A B : Option Addr) (lc c1 la c2 : Nat) (v : Int) (i : Ins) (w : World) (hi : i.Ok) (hv : -9223372036854775808 ≤ v ∧ v ≤ 9223372036854775807) (hl : lc ≤ 9223372036854775807) (hm : la ≤ 9223372036854775807) :
    Calls Tryd.prog 57 #[.agg #[.slice A lc c1, .int .i64 v, .slice B la c2], .agg #[.int .u8 i.op, .int .i64 i.n]] w fun e w' => e = .returned (.bool (fitsOf v la lc i)) ∧ Gr w w' := by
  obtain ⟨op, n⟩ := i
  obtain ⟨⟨h0, h1⟩, h2, h3⟩ := hi
  obtain ⟨v0, v1⟩ := hv
  simp only at h0 h1 h2 h3 ⊢
  have HC := Lib.hid (fun (w : World) => rcall_any n w h2 h3)
  obtain ⟨T, hT⟩ : ∃ T, T = fitsOf v la lc ⟨op, n⟩ := ⟨_, rfl⟩
  rw [← hT]
  rcases op_cases h0 h1 with hk | rfl | rfl | rfl | rfl | rfl | rfl | rfl | rfl | rfl | rfl | rfl | rfl | rfl | rfl | rfl | rfl | rfl | rfl | rfl | rfl | rfl | rfl | rfl | rfl | rfl | rfl | rfl | rfl | rfl | rfl
  · obtain ⟨e1, e2, e3⟩ := op_big (n := n) (v := v) (la := la) (lc := lc) hk
    rw [e3] at hT
    subst hT
    clear e1 e2 e3
    have g1 : decide (1 ≤ op) = true := by simp; omega
    have g2 : decide (op ≤ 29) = false := by simp; omega
    go_enter Tryd.func57, Tryd.ntmps57
    go_wp2_with fail
    go_ret
    refine ⟨ret_bool ?_, ?_⟩
    · first | (simp; done) | (simp; omega)
    · repeat (first | exact Gr.refl _ | apply Gr.drewN | apply Gr.drew | apply Gr.alloc)
  all_goals
    by_cases hc : callMany n < 0
    all_goals
      have HT := Lib.hid hT
      have HCN := Lib.hid hc
      have hcall := HC.out
      first
        | simp only [if_pos hc] at hcall
        | simp only [if_neg hc] at hcall
      have HCALL := Lib.hid hcall
      clear hT hc hcall
      go_enter Tryd.func57, Tryd.ntmps57
      go_wp2_with (go_at_call 28; refine (HCALL.out _).mono ?_; rintro e w' ⟨rfl, rfl⟩)
      all_goals
        go_ret
        refine ⟨ret_bool ?_, ?_⟩
        · rw [HT.out]
          have hc := HCN.out
          first | (simp [fitsOf, inB, hc]; done) | (simp [fitsOf, inB, hc]; omega) | (rw [Bool.eq_iff_iff]; simp [fitsOf, inB, hc]; omega)
        · repeat (first | exact Gr.refl _ | apply Gr.drewN | apply Gr.drew | apply Gr.alloc)

set_option maxHeartbeats 2000000 in
set_option maxRecDepth 100000 in
theorem rways_any (A B : Option Addr) (c1 lb c2 : Nat) (v : Int) (l : List Ins) (a : Nat) (w : World) (hR : InsRow w A l) (ha : a < l.length) (hl : l.length ≤ 4000) :
    Calls Tryd.prog 30 #[.agg #[.slice A l.length c1, .int .i64 v, .slice B lb c2], .int .i64 a] w (WaysPost (waysOf a l[a]) w) := by
  obtain ⟨b, o, rfl, hb, hc0, hc1⟩ := hR a ha
  clear hR
  obtain ⟨L, hL⟩ : ∃ L, L = waysOf a l[a] := ⟨_, rfl⟩
  rw [← hL]
  generalize l[a] = i at *
  obtain ⟨op, n⟩ := i
  unfold waysOf at hL
  simp only at hL hc0 hc1
  generalize l.length = len at *
  by_cases h1 : op = 29
  · subst h1
    rw [if_pos rfl] at hL
    subst hL
    go_enter Tryd.func30, Tryd.ntmps30
    go_wp2_with fail
    go_ret
    refine ⟨⟨_, _, rfl, IntRow.nil _, Nat.le_refl _, fun a h => by cases h⟩, ?_⟩
    repeat (first | exact Gr.refl _ | apply Gr.drewN | apply Gr.drew | apply Gr.alloc)
  rw [if_neg h1] at hL
  by_cases h2 : op = 22
  · subst h2
    rw [if_pos rfl] at hL
    subst hL
    go_enter Tryd.func30, Tryd.ntmps30
    go_wp2_with fail
    go_ret
    refine ⟨⟨_, _, rfl, IntRow.newAt (by simp) rfl, Nat.le_refl _, fun a h => by cases h; first | (simp; done) | (simp; omega)⟩, ?_⟩
    repeat (first | exact Gr.refl _ | apply Gr.drewN | apply Gr.drew | apply Gr.alloc)
  rw [if_neg h2] at hL
  by_cases h3 : op = 23
  · subst h3
    rw [if_pos (Or.inl rfl)] at hL
    subst hL
    go_enter Tryd.func30, Tryd.ntmps30
    go_wp2_with fail
    go_ret
    refine ⟨⟨_, _, rfl, IntRow.newAt (by simp) rfl, Nat.le_refl _, fun a h => by cases h; first | (simp; done) | (simp; omega)⟩, ?_⟩
    repeat (first | exact Gr.refl _ | apply Gr.drewN | apply Gr.drew | apply Gr.alloc)
  by_cases h4 : op = 24
  · subst h4
    rw [if_pos (Or.inr rfl)] at hL
    subst hL
    go_enter Tryd.func30, Tryd.ntmps30
    go_wp2_with fail
    go_ret
    refine ⟨⟨_, _, rfl, IntRow.newAt (by simp) rfl, Nat.le_refl _, fun a h => by cases h; first | (simp; done) | (simp; omega)⟩, ?_⟩
    repeat (first | exact Gr.refl _ | apply Gr.drewN | apply Gr.drew | apply Gr.alloc)
  rw [if_neg (by omega)] at hL
  subst hL
  go_enter Tryd.func30, Tryd.ntmps30
  go_wp2_with fail
  go_ret
  refine ⟨⟨_, _, rfl, IntRow.newAt (by simp) rfl, Nat.le_refl _, fun a h => by cases h; first | (simp; done) | (simp; omega)⟩, ?_⟩
  repeat (first | exact Gr.refl _ | apply Gr.drewN | apply Gr.drew | apply Gr.alloc)
end Go.Proofs.YtaanhkepimjelaaDoor
