/- The walk of slices.Clone at []int. -/
import Derived.Test.YtgphigpbgiceiaaCopyI
import Derived.Test.YtgphigpbgiceiaaIntLow
import Derived.Deep.LoopGhost
import Derived.Lib.SliceRun
namespace Go.Proofs.Ytgphigpbgiceiaa
open Go.RowKit Go.Sort
set_option linter.unusedVariables false
set_option linter.unusedSimpArgs false

theorem freshRow_of_own {w : World} {base n c : Nat} {A : Option Addr} {xs : List Value} (h : w.ownsRow base 3 1 (.slice A n c) n xs) : FreshRow base w A n := fun hn => by
  rcases h.2 with ⟨_, h0⟩ | ⟨g, cap, cur, e1, h1, h2, h3, h4, h5, h6⟩
  · omega
  · simp only [Value.slice.injEq] at e1
    obtain ⟨rfl, _, rfl⟩ := e1
    exact ⟨g, cur, rfl, h1, h2, by omega⟩
set_option maxHeartbeats 4000000 in
set_option maxRecDepth 100000 in
theorem clone_any (A : Option Addr) (cap : Nat) (l : List Int) (w : World) (hR : IntRow w A l) (hl : l.length ≤ 1000) :
    Calls Try.prog 17 #[.slice A l.length cap] w fun e w' => ∃ (B : Option Addr) (cb : Nat), e = .returned (.slice B l.length cb) ∧ IntRow w' B l ∧ (∀ a, B = some a → w.heap.size ≤ a.block) ∧ FreshRow w.heap.size w' B l.length ∧ Below w.heap.size w w' := by
  have q22 : ∀ (w : World) (a : Option Addr) (n c n' c' : Nat), (binOp .eql 22 (.slice a n c) (.slice none n' c')).run Try.prog w = .ok (.bool a.isNone) w := fun w a n c n' c' => Lib.run_eql_slice_nil w _ _ a n c n' c' Try.underlying22
  cases A with
  | none =>
    obtain rfl : l = [] := by
      cases l with
      | nil => rfl
      | cons x l =>
        obtain ⟨b, o, e, _⟩ := hR 0 (by simp)
        cases e
    clear hR
    go_enter Try.func17, Try.ntmps17
    go_wp2_with fail
    go_ret
    exact ⟨none, 0, rfl, fun k hk => absurd hk (by simp), fun a ha => (by cases ha), fun h => absurd h (by simp), Below.refl _ _⟩
  | some a =>
    obtain ⟨i1, hi1, hz01, hz11, hz21⟩ := info_parts Try.infoInt
    have H1 := Lib.hid (And.intro hi1 (And.intro hz01 (And.intro hz11 hz21)))
    clear hi1 hz01 hz11 hz21
    have HC := Lib.hid (intRow_cells hR)
    have HL := Lib.hid hl
    clear hR hl
    go_enter Try.func17, Try.ntmps17
    go_wp2_with (at_builtin; refine wpList_append_own _ rfl _ _ 22 rfl w.heap.size 3 i1 (.int .i64 0) 1 8 Try.underlying22 H1.out.1 H1.out.2.1 H1.out.2.2.1 H1.out.2.2.2 rfl (by decide) _ _ _ rfl (World.ownsRow_made w #[] 0 (Nat.le_refl _) (Nat.zero_le _) rfl) a l.length cap (l.map (Value.int .i64)) rfl ?qc1 ?qc2 ?qc3 ?qc4 ?qc5 ?qc6 ?_)
    case qc1 => simp
    case qc2 =>
      intro j u hj
      obtain ⟨a', e', h⟩ := HC.out j u hj
      cases e'
      exact Lib.cell?_alloc_some _ h
    case qc3 => intro u hu; obtain ⟨x, _, rfl⟩ := List.mem_map.1 hu; rfl
    case qc4 => have := HL.out; unfold maxLen; omega
    case qc5 => have := HL.out; omega
    case qc6 => simp
    intro v' w1 hown hgrow hnil
    have hown2 : w1.ownsRow w.heap.size 3 1 v' l.length (l.map (Value.int .i64)) := by simpa using hown
    obtain ⟨B, cb, rfl, _, _, h1, _⟩ := own_shape hown2
    go_wp2_with fail
    go_ret
    refine ⟨B, cb, rfl, intRow_of_own hown2, fun b hb => ?_, freshRow_of_own hown2, ((Below.refl _ w).alloc (Nat.le_refl _) _).grown hgrow (by simp) (by intro k hk; simp [Value.ownBlock] at hk; omega)⟩
    obtain ⟨g, rfl, h3, _⟩ := h1 b hb
    exact h3
end Go.Proofs.Ytgphigpbgiceiaa
