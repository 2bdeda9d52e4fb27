/- The walks of tree.Args and dispatcherref02.Args: both tell argsLo, argsHi of a kind. -/
import Derived.Test.YtgphigpbgiceiaaDoorProg
import Derived.WalkKit
import Derived.WalkSpells
import Derived.WalkLawsBesides
namespace Go.Proofs.YtgphigpbgiceiaaDoor
open Go.RowKit

def argsTab : List Int := [5, 5, 5, 5, 5, 3, 3, 1, -1, -1, 1, -1, 3, 3, 1, 3, 3, 2, 3, 1, 3, 1]
def argsLo (k : Int) : Int := if k < 1 then 0 else if 22 < k then 0 else if argsTab.getD (k - 1).toNat 0 < 0 then 1 else argsTab.getD (k - 1).toNat 0
def argsHi (k : Int) : Int := if k < 1 then 0 else if 22 < k then 0 else if argsTab.getD (k - 1).toNat 0 < 0 then 8 else argsTab.getD (k - 1).toNat 0

set_option maxHeartbeats 4000000 in
set_option maxRecDepth 100000 in
theorem refArgs_any (k : Int) (w : World) (h0 : 0 ≤ k) (h1 : k ≤ 255) :
    Calls Tryd.prog 40 #[.int .u8 k] w fun e w' => e = .returned (.tuple #[.int .i64 (argsLo k), .int .i64 (argsHi k)]) ∧ w' = w := by
  by_cases a : k < 1
  · have e : k = 0 := by omega
    subst e
    go_enter Tryd.func40, Tryd.ntmps40
    go_wp2
    go_ret2
    exact ⟨by simp [argsLo, argsHi], rfl⟩
  · by_cases b : 22 < k
    · have e1 : argsLo k = 0 := by unfold argsLo; rw [if_neg a, if_pos b]
      have e2 : argsHi k = 0 := by unfold argsHi; rw [if_neg a, if_pos b]
      rw [e1, e2]
      clear e1 e2
      go_enter Tryd.func40, Tryd.ntmps40
      go_wp2
      go_ret2
      exact ⟨rfl, rfl⟩
    · obtain ⟨n, rfl⟩ : ∃ n : Nat, k = n := ⟨k.toNat, by omega⟩
      have hn : n < 23 := by omega
      have hn0 : 0 < n := by omega
      clear a b h0 h1
      have hc : n = 1 ∨ n = 2 ∨ n = 3 ∨ n = 4 ∨ n = 5 ∨ n = 6 ∨ n = 7 ∨ n = 8 ∨ n = 9 ∨ n = 10 ∨ n = 11 ∨ n = 12 ∨ n = 13 ∨ n = 14 ∨ n = 15 ∨ n = 16 ∨ n = 17 ∨ n = 18 ∨ n = 19 ∨ n = 20 ∨ n = 21 ∨ n = 22 := by omega
      clear hn hn0
      rcases hc with rfl | rfl | rfl | rfl | rfl | rfl | rfl | rfl | rfl | rfl | rfl | rfl | rfl | rfl | rfl | rfl | rfl | rfl | rfl | rfl | rfl | rfl
      all_goals
        go_enter Tryd.func40, Tryd.ntmps40
        go_wp2
        go_ret2
        exact ⟨by simp [argsLo, argsHi, argsTab], rfl⟩
end Go.Proofs.YtgphigpbgiceiaaDoor
