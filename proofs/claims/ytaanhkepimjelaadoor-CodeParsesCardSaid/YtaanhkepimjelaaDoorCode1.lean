/- The walks of code.args, code.in, dispatcherref02.Args, Reduces, dispatcherref05.Call: what a call's number tells. -/
import Derived.Test.YtaanhkepimjelaaDoorProg
import Derived.Test.YtaanhkepimjelaaDoorBase
import Derived.Test.YtaanhkepimjelaaDoorCodeP
import Derived.WalkKit
import Derived.WalkSpells
import Derived.WalkLawsBesides
namespace Go.Proofs.YtaanhkepimjelaaDoor
open Go.RowKit
set_option linter.unusedVariables false
set_option linter.unusedSimpArgs false

theorem results_tmp4 {fn : Func} {t u v x : Tmp} (h : fn.results = #[.tmp t, .tmp u, .tmp v, .tmp x]) (tmps : Array Value) (P : Program) (w : World) :
    (results fn tmps).run P w = .ok (.tuple #[tmps.getD t undef, tmps.getD u undef, tmps.getD v undef, tmps.getD x undef]) w := by simp [results, h]

set_option maxHeartbeats 4000000 in
set_option maxRecDepth 100000 in
theorem args_any (n : Int) (w : World) (h0 : -9223372036854775808 ≤ n) (h1 : n ≤ 9223372036854775807) :
    Calls Tryd.prog 54 #[.int .i64 n] w fun e w' => e = .returned (.int .i64 (callMany n)) ∧ w' = w := by
  by_cases a : n < 0
  · have e : callMany n = -1 := by unfold callMany; rw [if_pos a]
    rw [e]
    clear e
    go_enter Tryd.func54, Tryd.ntmps54
    go_wp2
    go_ret
    exact ⟨rfl, rfl⟩
  by_cases b : 3071 < n
  · have e : callMany n = -1 := by unfold callMany; rw [if_neg a, if_pos b]
    rw [e]
    clear e
    go_enter Tryd.func54, Tryd.ntmps54
    go_wp2
    go_ret
    exact ⟨rfl, rfl⟩
  have hk : ∃ k : Nat, n.tmod 32 = k ∧ n % 32 = k ∧ k < 32 := ⟨(n % 32).toNat, by rw [Int.tmod_eq_emod_of_nonneg (by omega)]; omega, by omega, by omega⟩
  obtain ⟨k, hk1, hk2, hk3⟩ := hk
  have hc : callMany n = if hi5 k = 0 then -1 else if n % 1024 / 32 < lo5 k then -1 else if hi5 k < n % 1024 / 32 then -1 else if 1023 < n then (if (k : Int) = 17 then n % 1024 / 32 else if (k : Int) = 18 then n % 1024 / 32 else -1) else n % 1024 / 32 := by
    unfold callMany
    rw [if_neg a, if_neg b, hk2]
  generalize callMany n = res at hc ⊢
  have hks : k = 0 ∨ k = 1 ∨ k = 2 ∨ k = 3 ∨ k = 4 ∨ k = 5 ∨ k = 6 ∨ k = 7 ∨ k = 8 ∨ k = 9 ∨ k = 10 ∨ k = 11 ∨ k = 12 ∨ k = 13 ∨ k = 14 ∨ k = 15 ∨ k = 16 ∨ k = 17 ∨ k = 18 ∨ k = 19 ∨ k = 20 ∨ k = 21 ∨ k = 22 ∨ k = 23 ∨ k = 24 ∨ k = 25 ∨ k = 26 ∨ k = 27 ∨ k = 28 ∨ k = 29 ∨ k = 30 ∨ k = 31 := by omega
  clear hk3
  rcases hks with rfl | rfl | rfl | rfl | rfl | rfl | rfl | rfl | rfl | rfl | rfl | rfl | rfl | rfl | rfl | rfl | rfl | rfl | rfl | rfl | rfl | rfl | rfl | rfl | rfl | rfl | rfl | rfl | rfl | rfl | rfl | rfl
  all_goals
    simp [hi5, lo5, argsTab5] at hc
    have HC := Lib.hid hc
    clear hc
    go_enter Tryd.func54, Tryd.ntmps54
    go_wp2
    all_goals
      go_ret
      refine ⟨ret_int ?_, rfl⟩
      have hc := HC.out
      clear HC
      subst hc
      (repeat' split) <;> first | rfl | omega

set_option maxHeartbeats 400000 in
theorem in_any (n m : Int) (w : World) : Calls Tryd.prog 53 #[.int .i64 n, .int .i64 m] w fun e w' => e = .returned (.bool (inB n m)) ∧ w' = w := by
  unfold inB
  by_cases h : 0 ≤ n
  all_goals
    go_enter Tryd.func53, Tryd.ntmps53
    go_wp2
    all_goals
      go_ret
      exact ⟨ret_bool (by first | (simp [h]; done) | (simp; omega)), rfl⟩

set_option maxHeartbeats 4000000 in
set_option maxRecDepth 100000 in
theorem rargs_any (k : Int) (w : World) (h0 : 0 ≤ k) (h1 : k ≤ 255) :
    Calls Tryd.prog 55 #[.int .u8 k] w fun e w' => e = .returned (.tuple #[.int .i64 (lo5 k), .int .i64 (hi5 k)]) ∧ w' = w := by
  by_cases a : k < 1
  · have e : k = 0 := by omega
    subst e
    go_enter Tryd.func55, Tryd.ntmps55
    go_wp2
    go_ret2
    exact ⟨by simp [lo5, hi5], rfl⟩
  · by_cases b : 22 < k
    · have e1 : lo5 k = 0 := by unfold lo5; rw [if_neg a, if_pos b]
      have e2 : hi5 k = 0 := by unfold hi5; rw [if_neg a, if_pos b]
      rw [e1, e2]
      clear e1 e2
      go_enter Tryd.func55, Tryd.ntmps55
      go_wp2
      go_ret2
      exact ⟨rfl, rfl⟩
    · obtain ⟨n, rfl⟩ : ∃ n : Nat, k = n := ⟨k.toNat, by omega⟩
      have hn : n < 23 := by omega
      have hn0 : 0 < n := by omega
      clear a b h0 h1
      have hc : n = 1 ∨ n = 2 ∨ n = 3 ∨ n = 4 ∨ n = 5 ∨ n = 6 ∨ n = 7 ∨ n = 8 ∨ n = 9 ∨ n = 10 ∨ n = 11 ∨ n = 12 ∨ n = 13 ∨ n = 14 ∨ n = 15 ∨ n = 16 ∨ n = 17 ∨ n = 18 ∨ n = 19 ∨ n = 20 ∨ n = 21 ∨ n = 22 := by omega
      clear hn hn0
      rcases hc with rfl | rfl | rfl | rfl | rfl | rfl | rfl | rfl | rfl | rfl | rfl | rfl | rfl | rfl | rfl | rfl | rfl | rfl | rfl | rfl | rfl | rfl
      all_goals
        go_enter Tryd.func55, Tryd.ntmps55
        go_wp2
        go_ret2
        exact ⟨by simp [lo5, hi5, argsTab5], rfl⟩

def red5 (k : Int) : Bool := k == 17 || k == 18
set_option maxHeartbeats 400000 in
theorem reduces_any (k : Int) (w : World) : Calls Tryd.prog 56 #[.int .u8 k] w fun e w' => e = .returned (.bool (red5 k)) ∧ w' = w := by
  unfold red5
  cases h : (k == 17)
  all_goals
    go_enter Tryd.func56, Tryd.ntmps56
    go_wp2
    go_ret
    exact ⟨ret_bool (by simp), rfl⟩

set_option maxHeartbeats 4000000 in
set_option maxRecDepth 100000 in
theorem rcall_any (n : Int) (w : World) (h0 : -9223372036854775808 ≤ n) (h1 : n ≤ 9223372036854775807) :
    Calls Tryd.prog 28 #[.int .i64 n] w fun e w' => e = .returned (if callMany n < 0 then .tuple #[.int .u8 0, .int .i64 0, .int .u8 0, .bool false] else .tuple #[.int .u8 (n % 32), .int .i64 (callMany n), .int .u8 (n / 1024), .bool true]) ∧ w' = w := by
  by_cases a : n < 0
  · have e : callMany n = -1 := by unfold callMany; rw [if_pos a]
    rw [e, if_pos (by decide)]
    clear e
    go_enter Tryd.func28, Tryd.ntmps28
    go_wp2
    refine bodyPost_ret (results_tmp4 rfl _ _ _) rfl ?_
    exact ⟨rfl, rfl⟩
  by_cases b : 3071 < n
  · have e : callMany n = -1 := by unfold callMany; rw [if_neg a, if_pos b]
    rw [e, if_pos (by decide)]
    clear e
    go_enter Tryd.func28, Tryd.ntmps28
    go_wp2
    refine bodyPost_ret (results_tmp4 rfl _ _ _) rfl ?_
    exact ⟨rfl, rfl⟩
  have hA := rargs_any (n % 32) w (by omega) (by omega)
  have hR := reduces_any (n % 32) w
  have hc : callMany n = if hi5 (n % 32) = 0 then -1 else if n % 1024 / 32 < lo5 (n % 32) then -1 else if hi5 (n % 32) < n % 1024 / 32 then -1 else if 1023 < n then (if n % 32 = 17 then n % 1024 / 32 else if n % 32 = 18 then n % 1024 / 32 else -1) else n % 1024 / 32 := by
    unfold callMany
    rw [if_neg a, if_neg b]
  have hm : n % 1024 / 32 = n / 32 % 32 := by omega
  have hrd : red5 (n % 32) = true ↔ n % 32 = 17 ∨ n % 32 = 18 := by unfold red5; simp
  rw [hm] at hc
  generalize red5 (n % 32) = rd at *
  generalize lo5 (n % 32) = lo at *
  generalize hi5 (n % 32) = hi at *
  obtain ⟨T, hT⟩ : ∃ T, (if callMany n < 0 then Value.tuple #[.int .u8 0, .int .i64 0, .int .u8 0, .bool false] else .tuple #[.int .u8 (n % 32), .int .i64 (callMany n), .int .u8 (n / 1024), .bool true]) = T := ⟨_, rfl⟩
  rw [hT]
  generalize callMany n = res at *
  have hF : res = -1 → Value.tuple #[.int .u8 0, .int .i64 0, .int .u8 0, .bool false] = T := fun e => by rw [← hT, e, if_pos (by decide)]
  have hY : res = n / 32 % 32 → Value.tuple #[.int .u8 (n % 32), .int .i64 (n / 32 % 32), .int .u8 (n / 1024), .bool true] = T := fun e => by rw [← hT, e, if_neg (by omega)]
  have HA := Lib.hid hA
  have HR := Lib.hid hR
  have HF := Lib.hid hF
  have HY := Lib.hid hY
  have HC := Lib.hid hc
  have HRD := Lib.hid hrd
  clear hA hR hT hc hm hrd hF hY
  cases rd
  all_goals
    have hrd := HRD.out
    simp only [Bool.false_eq_true, false_iff, true_iff, not_or] at hrd
    clear HRD
    go_enter Tryd.func28, Tryd.ntmps28
    go_wp2_with (first | (go_at_call 55; refine HA.out.mono ?_; rintro e w' ⟨rfl, rfl⟩) | (go_at_call 56; refine HR.out.mono ?_; rintro e w' ⟨rfl, rfl⟩))
    all_goals
      refine bodyPost_ret (results_tmp4 rfl _ _ _) rfl ?_
      refine ⟨ret_val ?_, rfl⟩
      first
        | (refine HF.out ?_; rw [HC.out]; clear HC HF HY HA HR; (repeat' split) <;> first | rfl | omega | (simp_all; done) | (simp_all; omega))
        | (refine HY.out ?_; rw [HC.out]; clear HC HF HY HA HR; (repeat' split) <;> first | rfl | omega | (simp_all; done) | (simp_all; omega))
end Go.Proofs.YtaanhkepimjelaaDoor
