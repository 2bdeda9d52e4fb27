/- The walk of group.May. -/
import Derived.Test.YtgphigpbgiceiaaGreatDoorMayC
import Derived.Test.YtgphigpbgiceiaaGreatDoorPk6
import Derived.Test.YtgphigpbgiceiaaGreatDoorPk7
import Derived.Deep.LoopGhost
namespace Go.Proofs.YtgphigpbgiceiaaGreatDoor
open Go.RowKit Go.Sort
set_option linter.unusedVariables false
set_option linter.unusedSimpArgs false

/-- Which numbers have been met. -/
def MetAt (w : World) (b : Nat) (xs : List Int) : Prop := ∃ cs, BlkT w b 75 cs ∧ cs.size = 64 ∧ ∀ j, j < 64 → cs[j]? = some (.int .i64 (if (j : Int) ∈ xs then 1 else 0))
theorem MetAt.cell {w : World} {b : Nat} {xs : List Int} (h : MetAt w b xs) (j : Nat) (hj : j < 64) : w.cell? ⟨b, j, none⟩ = some (.int .i64 (if (j : Int) ∈ xs then 1 else 0)) := by
  obtain ⟨cs, h1, h2, h3⟩ := h
  exact h1.cell j _ (h3 j hj)
theorem MetAt.fz {w : World} {b : Nat} {xs : List Int} (h : MetAt w b xs) (j : Nat) : w.frozen? ⟨b, j, none⟩ = false := by
  obtain ⟨cs, h1, h2, h3⟩ := h
  exact h1.fz j
theorem MetAt.set {w : World} {b : Nat} {xs : List Int} (h : MetAt w b xs) (n : Nat) (hn : n < 64) : MetAt (w.setCell ⟨b, n, none⟩ (.int .i64 1)) b (xs ++ [(n : Int)]) := by
  obtain ⟨cs, h1, h2, h3⟩ := h
  refine ⟨_, h1.set n _, by simp [h2], fun j hj => ?_⟩
  by_cases e : n = j
  · subst e
    rw [Array.getElem?_setIfInBounds_self_of_lt (by omega)]
    simp
  · rw [Array.getElem?_setIfInBounds_ne e, h3 j hj]
    have : ((j : Int) ∈ xs ++ [(n : Int)]) ↔ (j : Int) ∈ xs := by
      simp
      omega
    simp [this]
theorem groupB_bad (l : List Int) (k : Nat) (hk : k < l.length) (h : l[k] < 0 ∨ 64 ≤ l[k] ∨ l[k] ∈ l.take k) : groupB l = false := by
  cases hg : groupB l with
  | false => rfl
  | true =>
    unfold groupB at hg
    simp only [Bool.and_eq_true, List.all_eq_true, decide_eq_true_iff] at hg
    obtain ⟨⟨h1, h2⟩, h3⟩ := hg
    have h4 := h1 _ (List.getElem_mem hk)
    rcases h with h | h | h
    · omega
    · omega
    · obtain ⟨i, hi, he⟩ := List.getElem_of_mem h
      rw [List.length_take] at hi
      have := (List.pairwise_iff_getElem.1 h2) i k (by omega) hk (by omega)
      rw [List.getElem_take] at he
      exact absurd he this
/-- All that came so far is well. -/
def OkUpto (l : List Int) (k : Nat) : Prop := (∀ x ∈ l.take k, 0 ≤ x ∧ x < 64) ∧ (l.take k).Nodup
theorem okUpto_succ {l : List Int} {k : Nat} (h : OkUpto l k) (hk : k < l.length) (h1 : 0 ≤ l[k]) (h2 : l[k] < 64) (h3 : l[k] ∉ l.take k) : OkUpto l (k + 1) := by
  have e : l.take (k + 1) = l.take k ++ [l[k]] := List.take_succ_eq_append_getElem hk
  unfold OkUpto
  rw [e]
  refine ⟨fun x hx => ?_, ?_⟩
  · rcases List.mem_append.1 hx with hx | hx
    · exact h.1 x hx
    · simp at hx
      subst hx
      exact ⟨h1, h2⟩
  · rw [List.nodup_append]
    refine ⟨h.2, by simp, fun a ha b hb => ?_⟩
    simp at hb
    subst hb
    exact fun e => h3 (e ▸ ha)
theorem groupB_good (l : List Int) (h : OkUpto l l.length) : groupB l = decide (0 < l.length) := by
  unfold OkUpto at h
  rw [List.take_length] at h
  have h1 : (l.all fun n => decide (0 ≤ n) && decide (n < 64)) = true := by
    rw [List.all_eq_true]
    intro x hx
    simpa using h.1 x hx
  unfold groupB
  rw [h1, decide_eq_true h.2]
  rfl

set_option maxHeartbeats 8000000 in
set_option maxRecDepth 100000 in
theorem group_any (s : ByteArray) (A : Option Addr) (cap : Nat) (l : List Int) (w : World) (hR : IntRow w A l) (hl : l.length ≤ 1000) :
    Calls Tryz.prog 15 #[.agg #[.string s, .slice A l.length cap]] w fun e w' => e = .returned (.bool (groupB l)) ∧ Below w.heap.size w w' := by
  obtain ⟨w1, hw1⟩ : ∃ y, y = w.alloc (.cells #[.string s, .slice A l.length cap] 26) := ⟨_, rfl⟩
  have e1 : Below w.heap.size w w1 := by rw [hw1]; exact (Below.refl _ _).alloc (Nat.le_refl _) _
  have f1 : BlkT w1 w.heap.size 26 #[.string s, .slice A l.length cap] := by rw [hw1]; exact heap_alloc_new _ _
  have z1 : w1.heap.size = w.heap.size + 1 := by rw [hw1]; simp
  obtain ⟨w2, hw2⟩ : ∃ y, y = w1.alloc (.cells #[.int .i64 0, .int .i64 0, .int .i64 0, .int .i64 0, .int .i64 0, .int .i64 0, .int .i64 0, .int .i64 0, .int .i64 0, .int .i64 0, .int .i64 0, .int .i64 0, .int .i64 0, .int .i64 0, .int .i64 0, .int .i64 0, .int .i64 0, .int .i64 0, .int .i64 0, .int .i64 0, .int .i64 0, .int .i64 0, .int .i64 0, .int .i64 0, .int .i64 0, .int .i64 0, .int .i64 0, .int .i64 0, .int .i64 0, .int .i64 0, .int .i64 0, .int .i64 0, .int .i64 0, .int .i64 0, .int .i64 0, .int .i64 0, .int .i64 0, .int .i64 0, .int .i64 0, .int .i64 0, .int .i64 0, .int .i64 0, .int .i64 0, .int .i64 0, .int .i64 0, .int .i64 0, .int .i64 0, .int .i64 0, .int .i64 0, .int .i64 0, .int .i64 0, .int .i64 0, .int .i64 0, .int .i64 0, .int .i64 0, .int .i64 0, .int .i64 0, .int .i64 0, .int .i64 0, .int .i64 0, .int .i64 0, .int .i64 0, .int .i64 0, .int .i64 0] 75) := ⟨_, rfl⟩
  have e2 : Below w1.heap.size w1 w2 := by rw [hw2]; exact (Below.refl _ _).alloc (Nat.le_refl _) _
  have f2 : BlkT w2 w1.heap.size 75 #[.int .i64 0, .int .i64 0, .int .i64 0, .int .i64 0, .int .i64 0, .int .i64 0, .int .i64 0, .int .i64 0, .int .i64 0, .int .i64 0, .int .i64 0, .int .i64 0, .int .i64 0, .int .i64 0, .int .i64 0, .int .i64 0, .int .i64 0, .int .i64 0, .int .i64 0, .int .i64 0, .int .i64 0, .int .i64 0, .int .i64 0, .int .i64 0, .int .i64 0, .int .i64 0, .int .i64 0, .int .i64 0, .int .i64 0, .int .i64 0, .int .i64 0, .int .i64 0, .int .i64 0, .int .i64 0, .int .i64 0, .int .i64 0, .int .i64 0, .int .i64 0, .int .i64 0, .int .i64 0, .int .i64 0, .int .i64 0, .int .i64 0, .int .i64 0, .int .i64 0, .int .i64 0, .int .i64 0, .int .i64 0, .int .i64 0, .int .i64 0, .int .i64 0, .int .i64 0, .int .i64 0, .int .i64 0, .int .i64 0, .int .i64 0, .int .i64 0, .int .i64 0, .int .i64 0, .int .i64 0, .int .i64 0, .int .i64 0, .int .i64 0, .int .i64 0] := by rw [hw2]; exact heap_alloc_new _ _
  have m2 : MetAt w2 w1.heap.size [] := ⟨_, f2, rfl, fun j hj => (by
    have e : (#[.int .i64 0, .int .i64 0, .int .i64 0, .int .i64 0, .int .i64 0, .int .i64 0, .int .i64 0, .int .i64 0, .int .i64 0, .int .i64 0, .int .i64 0, .int .i64 0, .int .i64 0, .int .i64 0, .int .i64 0, .int .i64 0, .int .i64 0, .int .i64 0, .int .i64 0, .int .i64 0, .int .i64 0, .int .i64 0, .int .i64 0, .int .i64 0, .int .i64 0, .int .i64 0, .int .i64 0, .int .i64 0, .int .i64 0, .int .i64 0, .int .i64 0, .int .i64 0, .int .i64 0, .int .i64 0, .int .i64 0, .int .i64 0, .int .i64 0, .int .i64 0, .int .i64 0, .int .i64 0, .int .i64 0, .int .i64 0, .int .i64 0, .int .i64 0, .int .i64 0, .int .i64 0, .int .i64 0, .int .i64 0, .int .i64 0, .int .i64 0, .int .i64 0, .int .i64 0, .int .i64 0, .int .i64 0, .int .i64 0, .int .i64 0, .int .i64 0, .int .i64 0, .int .i64 0, .int .i64 0, .int .i64 0, .int .i64 0, .int .i64 0, .int .i64 0] : Array Value) = Array.replicate 64 (.int .i64 0) := rfl
    rw [e]
    simp [hj])⟩
  have HB := Lib.hid (e1.trans (e2.mono e1.size))
  have hX := f1.below e2
  have g1 := hX.cell 1 _ rfl
  have HX := Lib.hid hX
  rw [z1] at m2
  have HM := Lib.hid m2
  have HR := Lib.hid (hR.low.below HB.out)
  have HBS := Lib.hid (show w.heap.size ≤ w.heap.size + 1 by omega)
  have HBX0 := Lib.hid (show w.heap.size < w.heap.size + 1 by omega)
  have HBQ := Lib.hid (show w.heap.size + 1 ≤ w2.heap.size by have := e2.size; omega)
  go_enter Tryz.func15, Tryz.ntmps15
  go_upto_region 2 with fail
  rw [← hw1, ← hw2]
  clear hw1 hw2 e1 e2 f1 f2 z1 hR hX m2
  generalize w.heap.size + 1 = q at *
  go_wp2_with fail
  go_loopg [9] (l.length + 1) (fun g2 i wx => ∃ k : Nat, i = .int .i64 k ∧ k ≤ l.length ∧ l.length - k < g2 ∧ Hid (OkUpto l k) ∧ Hid (MetAt wx q (l.take k)) ∧ Hid (Below q w2 wx))
  case atStart => exact ⟨0, rfl, by omega, by omega, Lib.hid ⟨by simp, by simp⟩, HM, Lib.hid (Below.refl _ _)⟩
  case round =>
    obtain ⟨k, rfl, hk, hg, HOK, HME, HBX⟩ := hrel
    obtain ⟨g, rfl⟩ : ∃ g, gk = g + 1 := ⟨gk - 1, by omega⟩
    have HBB := Lib.hid (HB.out.trans (HBX.out.mono HBS.out))
    clear g1
    by_cases hlt : k < l.length
    · obtain ⟨b, o, rfl, hbl, c0⟩ := (HR.out.below (HBX.out.mono HBS.out)) k hlt
      have HBAD := Lib.hid (groupB_bad l k hlt)
      have HSUC := Lib.hid (okUpto_succ HOK.out hlt)
      have HTK := Lib.hid (show l.take (k + 1) = l.take k ++ [l[k]] from List.take_succ_eq_append_getElem hlt)
      clear hbl
      generalize l[k] = x at *
      by_cases h0 : x < 0
      · have hd : decide (x < 0) = true := by simpa using h0
        have HF := Lib.hid (HBAD.out (Or.inl h0))
        clear h0
        go_wp2_with fail
        go_ret
        exact ⟨ret_bool HF.out.symm, HBB.out⟩
      · have hd : decide (x < 0) = false := by simpa using h0
        by_cases h1 : 64 ≤ x
        · have hd1 : decide (64 ≤ x) = true := by simpa using h1
          have HF := Lib.hid (HBAD.out (Or.inr (Or.inl h1)))
          clear h0 h1
          go_wp2_with fail
          go_ret
          exact ⟨ret_bool HF.out.symm, HBB.out⟩
        · obtain ⟨n, rfl⟩ : ∃ n : Nat, x = n := ⟨x.toNat, by omega⟩
          have hd1 : decide ((64 : Int) ≤ (n : Int)) = false := by simp; omega
          have hn : n < 64 := by omega
          have m0 := HME.out.cell n hn
          have mz := HME.out.fz n
          clear h0 h1
          by_cases hm : (n : Int) ∈ l.take k
          · rw [if_pos hm] at m0
            have HF := Lib.hid (HBAD.out (Or.inr (Or.inr hm)))
            clear hm
            go_wp2_with fail
            go_ret
            exact ⟨ret_bool HF.out.symm, HBB.out⟩
          · rw [if_neg hm] at m0
            have HOK2 := Lib.hid (HSUC.out (by omega) (by omega) hm)
            have HME2 := Lib.hid (HTK.out.symm ▸ HME.out.set n hn)
            have HB2 := Lib.hid (HBX.out.setCell (p := ⟨q, n, none⟩) (Nat.le_refl q) (.int .i64 1))
            clear hm
            go_wp2_with fail
            go_roundg g
            case measure => omega
            case rel => exact ⟨k + 1, by go_num, by omega, by omega, HOK2, HME2, HB2⟩
    · obtain rfl : k = l.length := by omega
      have g1 := (HBX.out.cell (p := ⟨w.heap.size, 1, none⟩) HBX0.out).trans (HX.out.cell 1 _ rfl)
      have HF := Lib.hid (groupB_good l HOK.out)
      go_wp2_with fail
      go_ret
      exact ⟨ret_bool (by rw [HF.out, Bool.eq_iff_iff]), HBB.out⟩
end Go.Proofs.YtgphigpbgiceiaaGreatDoor
