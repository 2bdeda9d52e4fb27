/- The walk of dispatcherref16.Parse. -/
import Derived.Test.YtgphigpbgiceiaaDoorPk38
import Derived.Test.YtgphigpbgiceiaaDoorRParts
import Derived.Test.YtgphigpbgiceiaaDoorRText
import Derived.Test.YtgphigpbgiceiaaDoorRUses
import Derived.Test.YtgphigpbgiceiaaDoorClParse
import Derived.Test.YtgphigpbgiceiaaDoorTc1
import Derived.Deep.LoopGhost
import Derived.Deep.Cut
import Derived.Deep.DeepCutAuto
namespace Go.Proofs.YtgphigpbgiceiaaDoor
open Go.RowKit Go.Sort
set_option linter.unusedVariables false
set_option linter.unusedSimpArgs false

/-- What a row of texts holds, wherever it lies. -/
def StrRow (w : World) (A : Option Addr) (LB : List ByteArray) : Prop := ∀ k (hk : k < LB.length), ∃ b o, A = some ⟨b, o, none⟩ ∧ b < w.heap.size ∧ w.cell? ⟨b, o + k, none⟩ = some (.string LB[k])
def red5 (k : Int) : Bool := k == 17 || k == 18
theorem reduces16_any (k : Int) (w : World) : Calls Tryd.prog 38 #[.int .u8 k] w fun e w' => e = .returned (.bool (red5 k)) ∧ w' = w := by
  unfold red5
  cases h : (k == 17)
  all_goals
    go_enter Tryd.func38, Tryd.ntmps38
    go_wp2
    go_ret
    exact ⟨ret_bool (by simp), rfl⟩
theorem cell_of_block {w w' : World} {b j : Nat} (h : w'.heap[b]? = w.heap[b]?) : w'.cell? ⟨b, j, none⟩ = w.cell? ⟨b, j, none⟩ := World.cell?_of_block (a := ⟨b, j, none⟩) h
theorem strRow_of_own {w : World} {base c : Nat} {A : Option Addr} {l : List ByteArray} (h : w.ownsRow base 9 1 (.slice A l.length c) l.length (l.map Value.string)) : StrRow w A l := fun k hk => by
  obtain ⟨A', c', e, _, _, h1, h2⟩ := own_shape h
  cases e
  cases A with
  | none => have := (h2 rfl).1; omega
  | some a =>
    obtain ⟨g, rfl, _, hlt⟩ := h1 a rfl
    refine ⟨g, 0, rfl, hlt, ?_⟩
    rw [Nat.zero_add, h.cellAt k (by omega)]
    simp [List.getElem?_eq_getElem hk]
theorem StrRow.kept {w w' : World} {A : Option Addr} {l : List ByteArray} (h : StrRow w A l) (hk : ∀ b, b < w.heap.size → (∃ a, A = some a ∧ a.block = b) → w'.heap[b]? = w.heap[b]?) : StrRow w' A l := fun k hl => by
  obtain ⟨b, o, e, hlt, hc⟩ := h k hl
  have hb := hk b hlt ⟨_, e, rfl⟩
  have hlt' : b < w'.heap.size := by
    rcases Nat.lt_or_ge b w'.heap.size with h1 | h1
    · exact h1
    · rw [Array.getElem?_eq_none h1, Array.getElem?_eq_getElem hlt] at hb
      cases hb
  exact ⟨b, o, e, hlt', by rw [← hc]; exact cell_of_block hb⟩
theorem cutR_ne : ∀ (l p : List UInt8), 0 < (cutR p l).length ∧ (cutR p l).length ≤ l.length + 1 ∧ ∀ x ∈ cutR p l, x.length ≤ p.length + l.length
  | [], p => by simp [cutR]
  | [b], p => by simp [cutR]
  | b :: c :: r, p => by
    rw [cutR]
    split
    · have h := cutR_ne r []
      refine ⟨by simp, by simp only [List.length_cons]; omega, fun x hx => ?_⟩
      rcases List.mem_cons.1 hx with rfl | hx
      · simp
      · have := h.2.2 x hx
        simp only [List.length_cons, List.length_nil] at this ⊢
        omega
    · have h := cutR_ne (c :: r) (p ++ [b])
      refine ⟨h.1, by have := h.2.1; simp only [List.length_cons] at this ⊢; omega, fun x hx => ?_⟩
      have := h.2.2 x hx
      simp only [List.length_cons, List.length_append, List.length_nil] at this ⊢
      omega
theorem partsF_few {s x : List UInt8} {ps : List (List UInt8)} (h : partsF s = some (x, ps)) : 0 < ps.length ∧ ps.length ≤ s.length + 1 ∧ ∀ y ∈ ps, y.length ≤ s.length := by
  unfold partsF at h
  split at h
  · cases h
  · have e := (Prod.mk.inj (Option.some.inj h)).2
    rw [← e]
    obtain ⟨h1, h2, h3⟩ := cutR_ne ((s.drop ((s.takeWhile (· != 40)).length + 1)).dropLast) []
    have hl : ((s.drop ((s.takeWhile (· != 40)).length + 1)).dropLast).length ≤ s.length := by
      simp only [List.length_dropLast, List.length_drop]
      omega
    exact ⟨h1, by omega, fun y hy => by have := h3 y hy; simp only [List.length_nil] at this; omega⟩
theorem uses_nine (k : Int) : ((usesF k).getD []).contains 9 = red5 k := by
  by_cases k1 : k = 1 ∨ k = 2 ∨ k = 3 ∨ k = 4 ∨ k = 5
  · unfold usesF; rw [if_pos k1]; rcases k1 with rfl | rfl | rfl | rfl | rfl <;> rfl
  by_cases k2 : k = 6 ∨ k = 7 ∨ k = 13 ∨ k = 14
  · unfold usesF; rw [if_neg k1, if_pos k2]; rcases k2 with rfl | rfl | rfl | rfl <;> rfl
  by_cases k3 : k = 8 ∨ k = 9 ∨ k = 10 ∨ k = 11 ∨ k = 12
  · unfold usesF; rw [if_neg k1, if_neg k2, if_pos k3]; rcases k3 with rfl | rfl | rfl | rfl | rfl <;> rfl
  by_cases k4 : k = 15 ∨ k = 20 ∨ k = 22
  · unfold usesF; rw [if_neg k1, if_neg k2, if_neg k3, if_pos k4]; rcases k4 with rfl | rfl | rfl <;> rfl
  by_cases k5 : k = 16 ∨ k = 19
  · unfold usesF; rw [if_neg k1, if_neg k2, if_neg k3, if_neg k4, if_pos k5]; rcases k5 with rfl | rfl <;> rfl
  by_cases k6 : k = 17
  · subst k6; rfl
  by_cases k7 : k = 18
  · subst k7; rfl
  have hr : red5 k = false := by simp [red5, k6, k7]
  by_cases k8 : k = 21
  · subst k8; rfl
  unfold usesF; rw [if_neg k1, if_neg k2, if_neg k3, if_neg k4, if_neg k5, if_neg k6, if_neg k7, if_neg k8, hr]; rfl
theorem refCl_op {k : Int} (h : red5 k = false) {a b : Int} (l : List Int) : refCl k a l = refCl k b l := by
  have h1 : k ≠ 17 := by rintro rfl; cases h
  have h2 : k ≠ 18 := by rintro rfl; cases h
  unfold refCl
  repeat' split
  all_goals first | rfl | exact absurd ‹_› h1 | exact absurd ‹_› h2
theorem intRow_of_own64' {w : World} {base c n : Nat} {A : Option Addr} {l : List Int} (hn : l.length = n) (h : w.ownsRow base 3 1 (.slice A n c) n (l.map (Value.int .i64))) : IntRow w A l ∧ ∀ a, A = some a → base ≤ a.block ∧ a.block < w.heap.size := by
  subst hn
  refine ⟨intRow_of_own h, fun a ha => ?_⟩
  obtain ⟨A', c', e, _, _, h1, h2⟩ := own_shape h
  cases e
  obtain ⟨g, rfl, h3, h4⟩ := h1 a ha
  exact ⟨h3, h4⟩
theorem usesS_l {k : Int} : (usesS k == [108]) = true → (k = 8 ∨ k = 9 ∨ k = 10 ∨ k = 11 ∨ k = 12) := by
  intro h
  unfold usesS at h
  split at h
  · cases h
  split at h
  · cases h
  split at h
  · assumption
  split at h
  · cases h
  split at h
  · cases h
  split at h
  · cases h
  split at h
  · cases h
  split at h
  · cases h
  · cases h
theorem Kp.trans {q : Nat} {w w1 w2 : World} (h : Kp q w w1) (h2 : Kp q w1 w2) : Kp q w w2 :=
  ⟨h.1.trans h2.1, Nat.le_trans h.2.1 h2.2.1, fun b hn hl => (h2.2.2 b hn (Nat.lt_of_lt_of_le hl h.2.1)).trans (h.2.2 b hn hl)⟩
theorem IntRow.keptB {w w' : World} {A : Option Addr} {l : List Int} (h : IntRow w A l) (hk : ∀ b, b < w.heap.size → (∃ a, A = some a ∧ a.block = b) → w'.heap[b]? = w.heap[b]?) : IntRow w' A l := fun k hl => by
  obtain ⟨b, o, e, hlt, hc⟩ := h k hl
  have hb := hk b hlt ⟨_, e, rfl⟩
  have hlt' : b < w'.heap.size := by
    rcases Nat.lt_or_ge b w'.heap.size with h1 | h1
    · exact h1
    · rw [Array.getElem?_eq_none h1, Array.getElem?_eq_getElem hlt] at hb
      cases hb
  exact ⟨b, o, e, hlt', by rw [← hc]; exact cell_of_block hb⟩
theorem intRow_of_own64 {w : World} {base c n : Nat} {A : Option Addr} {l : List Int} (hn : l.length = n) (h : w.ownsRow base 2 1 (.slice A n c) n (l.map (Value.int .i64))) : IntRow w A l ∧ ∀ a, A = some a → base ≤ a.block ∧ a.block < w.heap.size := by
  subst hn
  obtain ⟨A', c', e, _, _, h1, h2⟩ := own_shape h
  cases e
  refine ⟨fun k hk => ?_, fun a ha => ?_⟩
  · cases A with
    | none => have := (h2 rfl).1; omega
    | some a =>
      obtain ⟨g, rfl, _, hlt⟩ := h1 a rfl
      refine ⟨g, 0, rfl, hlt, ?_⟩
      rw [Nat.zero_add, h.cellAt k (by omega)]
      simp [List.getElem?_eq_getElem hk]
  · obtain ⟨g, rfl, h3, h4⟩ := h1 a ha
    exact ⟨h3, h4⟩
theorem refCl_ok {k op : Int} {L : List Int} (hk : 0 ≤ k ∧ k ≤ 255) (ho : 0 ≤ op ∧ op ≤ 255) (hL : ∀ x ∈ L, I64 x) : (refCl k op L).Ok := by
  have h0 : I64 0 := by unfold I64; omega
  have hg : ∀ i, I64 (L.getD i 0) := fun i => by
    rw [List.getD_eq_getElem?_getD]
    cases h : L[i]? with
    | none => exact h0
    | some x => exact hL x (List.mem_of_getElem? h)
  unfold refCl
  repeat' split
  all_goals first
    | exact kindCl_ok hk
    | exact ⟨hk, by first | exact hg _ | exact h0, by first | exact hg _ | exact h0, by first | exact hg _ | exact h0, by first | exact hg _ | exact h0, by first | exact hg _ | exact h0, by first | exact hg _ | exact h0, by first | exact ho | exact (⟨by decide, by decide⟩ : (0 : Int) ≤ 0 ∧ (0 : Int) ≤ 255), by first | exact hL | exact fun n hn => absurd hn (by simp), by first | exact hg _ | exact h0, by first | exact hg _ | exact h0⟩
theorem refCl_reqs (k op : Int) (L : List Int) : (refCl k op L).reqs.length ≤ L.length := by
  unfold refCl
  repeat' split
  all_goals simp [kindCl]
theorem nums_args {k : Int} (hk : 1 ≤ k ∧ k ≤ 22) (h8 : ¬ (k = 8 ∨ k = 9 ∨ k = 10 ∨ k = 11 ∨ k = 12)) (d : Cl) : ((clNums d ((usesF k).getD [])).length : Int) = argsLo k := by
  have : k = 1 ∨ k = 2 ∨ k = 3 ∨ k = 4 ∨ k = 5 ∨ k = 6 ∨ k = 7 ∨ k = 13 ∨ k = 14 ∨ k = 15 ∨ k = 16 ∨ k = 17 ∨ k = 18 ∨ k = 19 ∨ k = 20 ∨ k = 21 ∨ k = 22 := by omega
  rcases this with h | h | h | h | h | h | h | h | h | h | h | h | h | h | h | h | h <;> subst h <;> rfl

attribute [local irreducible] Go.wpQuiet
set_option maxHeartbeats 32000000 in
set_option maxRecDepth 100000 in
theorem rparse_any (s : ByteArray) (hs : s.size ≤ 300) (w : World) : Calls Tryd.prog 10 #[.string s] w (ParsePost s w) := by
  obtain ⟨i1, hi1, hz01, hz11, hz21⟩ := info_parts Tryd.infoInt
  have H1 := Lib.hid (And.intro hi1 (And.intro hz01 (And.intro hz11 hz21)))
  clear hi1 hz01 hz11 hz21
  obtain ⟨i2, hi1, hz01, hz11, hz21⟩ := info_parts Tryd.infoInt64
  have H2 := Lib.hid (And.intro hi1 (And.intro hz01 (And.intro hz11 hz21)))
  clear hi1 hz01 hz11 hz21
  obtain ⟨w1, hw1⟩ : ∃ y, y = w.alloc (.cells #[.int .u8 0, .int .i64 0, .int .i64 0, .int .i64 0, .int .i64 0, .int .i64 0, .int .i64 0, .int .u8 0, .slice none 0 0, .int .i64 0, .int .i64 0] 29) := ⟨_, rfl⟩
  have e1 : Below w.heap.size w w1 := by rw [hw1]; exact (Below.refl _ _).alloc (Nat.le_refl _) _
  have f1 : ClBlk w1 w.heap.size zeroCl none 0 := by rw [hw1]; exact heap_alloc_new _ _
  have hq0 : w.heap.size < w1.heap.size := f1.lt
  obtain ⟨w2, hw2⟩ : ∃ y, y = w1.alloc (.cells #[.int .u8 0, .int .i64 0, .int .i64 0, .int .i64 0, .int .i64 0, .int .i64 0, .int .i64 0, .int .u8 0, .slice none 0 0, .int .i64 0, .int .i64 0] 29) := ⟨_, rfl⟩
  have e2 : Below w1.heap.size w1 w2 := by rw [hw2]; exact (Below.refl _ _).alloc (Nat.le_refl _) _
  have HZ2 := Lib.hid (show ClBlk w2 w1.heap.size zeroCl none 0 by rw [hw2]; exact heap_alloc_new _ _)
  have HF2 := Lib.hid (f1.below e2)
  have HB2 := Lib.hid (e1.trans (e2.mono e1.size))
  have HPT := Lib.hid (parts_any s hs w2)
  have HLEN := Lib.hid (show s.data.toList.length = s.size by simp)
  have HS1 := Lib.hid (show w1.heap.size = w.heap.size + 1 by rw [hw1]; simp)
  have HW1 := Lib.hid hw1
  have HW2 := Lib.hid hw2
  clear e1 f1 e2 hw1 hw2
  go_enter Tryd.func10, Tryd.ntmps10
  go_upto_region 2 with fail
  rw [← HW1.out, ← HW2.out, ← HS1.out]
  clear HW1 HW2 HS1
  generalize w1.heap.size = q4 at *
  go_wp2_with fail
  refine HPT.out.mono ?_
  rintro e w3 ⟨WD, A, cA, LB, ok, rfl, hrow, hb3, hpt⟩
  have HROW3 := Lib.hid (strRow_of_own hrow)
  have HSH := Lib.hid (own_shape hrow)
  have HF3 := Lib.hid (HF2.out.below hb3)
  have HZ3 := Lib.hid (HZ2.out.below hb3)
  have HB3 := Lib.hid (HB2.out.trans (hb3.mono HB2.out.size))
  have HPS := Lib.hid hpt
  have HQ4 := Lib.hid HZ2.out.lt
  have HQ43 := Lib.hid (show w2.heap.size ≤ w3.heap.size from hb3.size)
  clear hrow hb3 hpt HF2 HZ2 HB2 HPT
  obtain ⟨kd, hkd⟩ : ∃ k, callOf WD = k := ⟨_, rfl⟩
  have hkb := callOf_bd WD
  rw [hkd] at hkb
  have HCO := Lib.hid (hkd ▸ refCall_any WD w3)
  have HKD := Lib.hid hkd
  clear hkd
  go_upto_region 3 with fail
  go_wp2_with fail
  refine HCO.out.mono ?_
  rintro e w4 ⟨rfl, hb4⟩
  have HROW4 := Lib.hid (HROW3.out.kept (fun b hb _ => hb4.block b hb))
  have HF4 := Lib.hid (HF3.out.below hb4)
  have HZ4 := Lib.hid (HZ3.out.below hb4)
  have HB4 := Lib.hid (HB3.out.trans (hb4.mono HB3.out.size))
  have HGR := Lib.hid (show w3.heap.size ≤ w4.heap.size from hb4.size)
  have HQ44 := Lib.hid (show w2.heap.size ≤ w4.heap.size from Nat.le_trans HQ43.out hb4.size)
  clear hb4 HROW3 HF3 HZ3 HB3 HCO HQ43
  go_upto_region 4 with fail
  obtain ⟨w9, hw9⟩ : ∃ y, y = w4.alloc (.cells (clCells (kindCl kd) none 0) 29) := ⟨_, rfl⟩
  rw [show w4.alloc (.cells #[.int .u8 kd, .int .i64 0, .int .i64 0, .int .i64 0, .int .i64 0, .int .i64 0, .int .i64 0, .int .u8 0, .slice none 0 0, .int .i64 0, .int .i64 0] 29) = w9 from hw9.symm]
  have e9 : Below w4.heap.size w4 w9 := by rw [hw9]; exact (Below.refl _ _).alloc (Nat.le_refl _) _
  have HROW := Lib.hid (HROW4.out.kept (fun b hb _ => e9.block b hb))
  have HF := Lib.hid (HF4.out.below e9)
  have HZ := Lib.hid (HZ4.out.below e9)
  have HB := Lib.hid (HB4.out.trans (e9.mono HB4.out.size))
  have HC := Lib.hid (show ClBlk w9 w4.heap.size (kindCl kd) none 0 by rw [hw9]; exact ClBlk.new)
  have hcA : LB.length ≤ cA := by
    obtain ⟨A', c', h1, h2, _⟩ := HSH.out
    cases h1
    exact h2
  have HQ8 := Lib.hid (show w.heap.size < w4.heap.size ∧ q4 < w4.heap.size ∧ (∀ a, A = some a → a.block < w4.heap.size) from ⟨by have := HQ4.out; have := HQ44.out; omega, by have := HQ4.out; have := HQ44.out; omega, fun a ha => by
    subst ha
    rcases Nat.eq_zero_or_pos LB.length with h0 | h0
    · obtain ⟨A', c', h1, _, _, h2, h3⟩ := HSH.out
      cases h1
      obtain ⟨g, h4, _, h5⟩ := h2 a rfl
      rw [h4]
      exact Nat.lt_of_lt_of_le h5 HGR.out
    · obtain ⟨b, o, h1, h2, _⟩ := HROW4.out 0 h0
      cases h1
      exact h2⟩)
  have HCL9 := Lib.hid (show w4.heap.size < w9.heap.size from HC.out.lt)
  clear hw9 e9 HROW4 HF4 HZ4 HB4 HQ4 HQ44 HSH HGR
  generalize w4.heap.size = q8 at *
  have p0 : w9.cell? ⟨q8, 0, none⟩ = some (.int .u8 kd) := HC.out.at.g0
  cases ok
  case false =>
    have HNO := Lib.hid (show ∀ d, ¬ CanonS s.data.toList d from fun d => canon_none (by
      have h := HPS.out
      cases hp : partsF s.data.toList with
      | none => rfl
      | some x => rw [hp] at h; exact absurd h.1 (by decide)) d)
    have f0 := HF.out.fz 0
    have f1 := HF.out.fz 1
    have f2 := HF.out.fz 2
    have f3 := HF.out.fz 3
    have f4 := HF.out.fz 4
    have f5 := HF.out.fz 5
    have f6 := HF.out.fz 6
    have f7 := HF.out.fz 7
    have f8 := HF.out.fz 8
    have f9 := HF.out.fz 9
    have fA := HF.out.fz 10
    have rl := HF.out.lt
    have r0 := HF.out.at.g0
    have r1 := HF.out.at.g1
    have r2 := HF.out.at.g2
    have r3 := HF.out.at.g3
    have r4 := HF.out.at.g4
    have r5 := HF.out.at.g5
    have r6 := HF.out.at.g6
    have r7 := HF.out.at.g7
    have r8 := HF.out.at.g8
    have r9 := HF.out.at.g9
    have rA := HF.out.at.gA
    have o0 : w9.cell? ⟨q4, 0, none⟩ = some (.int .u8 0) := HZ.out.at.g0
    have o1 : w9.cell? ⟨q4, 1, none⟩ = some (.int .i64 0) := HZ.out.at.g1
    have o2 : w9.cell? ⟨q4, 2, none⟩ = some (.int .i64 0) := HZ.out.at.g2
    have o3 : w9.cell? ⟨q4, 3, none⟩ = some (.int .i64 0) := HZ.out.at.g3
    have o4 : w9.cell? ⟨q4, 4, none⟩ = some (.int .i64 0) := HZ.out.at.g4
    have o5 : w9.cell? ⟨q4, 5, none⟩ = some (.int .i64 0) := HZ.out.at.g5
    have o6 : w9.cell? ⟨q4, 6, none⟩ = some (.int .i64 0) := HZ.out.at.g6
    have o7 : w9.cell? ⟨q4, 7, none⟩ = some (.int .u8 0) := HZ.out.at.g7
    have o8 : w9.cell? ⟨q4, 8, none⟩ = some (.slice none 0 0) := HZ.out.at.g8
    have o9 : w9.cell? ⟨q4, 9, none⟩ = some (.int .i64 0) := HZ.out.at.g9
    have oA : w9.cell? ⟨q4, 10, none⟩ = some (.int .i64 0) := HZ.out.at.gA
    go_wp2_with fail
    have hZ : CBlk (((((((((((w9.setCell ⟨w.heap.size, 0, none⟩ (.int .u8 0)).setCell ⟨w.heap.size, 1, none⟩ (.int .i64 0)).setCell ⟨w.heap.size, 2, none⟩ (.int .i64 0)).setCell ⟨w.heap.size, 3, none⟩ (.int .i64 0)).setCell ⟨w.heap.size, 4, none⟩ (.int .i64 0)).setCell ⟨w.heap.size, 5, none⟩ (.int .i64 0)).setCell ⟨w.heap.size, 6, none⟩ (.int .i64 0)).setCell ⟨w.heap.size, 7, none⟩ (.int .u8 0)).setCell ⟨w.heap.size, 8, none⟩ (.slice none 0 0)).setCell ⟨w.heap.size, 9, none⟩ (.int .i64 0)).setCell ⟨w.heap.size, 10, none⟩ (.int .i64 0)) w.heap.size #[.int .u8 0, .int .i64 0, .int .i64 0, .int .i64 0, .int .i64 0, .int .i64 0, .int .i64 0, .int .u8 0, .slice none 0 0, .int .i64 0, .int .i64 0] := fill_blk HF.out rfl (.int .u8 0) (.int .i64 0) (.int .i64 0) (.int .i64 0) (.int .i64 0) (.int .i64 0) (.int .i64 0) (.int .u8 0) (.slice none 0 0) (.int .i64 0) (.int .i64 0)
    have x0 := hZ.cell 0 (.int .u8 0) rfl
    have x1 := hZ.cell 1 (.int .i64 0) rfl
    have x2 := hZ.cell 2 (.int .i64 0) rfl
    have x3 := hZ.cell 3 (.int .i64 0) rfl
    have x4 := hZ.cell 4 (.int .i64 0) rfl
    have x5 := hZ.cell 5 (.int .i64 0) rfl
    have x6 := hZ.cell 6 (.int .i64 0) rfl
    have x7 := hZ.cell 7 (.int .u8 0) rfl
    have x8 := hZ.cell 8 (.slice none 0 0) rfl
    have x9 := hZ.cell 9 (.int .i64 0) rfl
    have xA := hZ.cell 10 (.int .i64 0) rfl
    refine bodyPost_ret (v := .tuple #[.agg #[.int .u8 0, .int .i64 0, .int .i64 0, .int .i64 0, .int .i64 0, .int .i64 0, .int .i64 0, .int .u8 0, .slice none 0 0, .int .i64 0, .int .i64 0], .int .i64 160]) (by simp [results, Tryd.results10, go_sem, x0, x1, x2, x3, x4, x5, x6, x7, x8, x9, xA]) rfl ?_
    exact ⟨zeroCl, none, 0, 160, rfl, fun k hk => absurd hk (by simp [zeroCl]), fill_below HB.out (Nat.le_refl _) (.int .u8 0) (.int .i64 0) (.int .i64 0) (.int .i64 0) (.int .i64 0) (.int .i64 0) (.int .i64 0) (.int .u8 0) (.slice none 0 0) (.int .i64 0) (.int .i64 0), .inr ⟨rfl, rfl, parse_end_none HNO.out⟩⟩
  case true =>
    obtain ⟨x, ps, hpf, hx, hps⟩ : ∃ x ps, partsF s.data.toList = some (x, ps) ∧ WD.data.toList = x ∧ LB.map (·.data.toList) = ps := by
      have h := HPS.out
      cases hp : partsF s.data.toList with
      | none => rw [hp] at h; cases h
      | some x => rw [hp] at h; exact ⟨_, _, rfl, h.2.1, h.2.2⟩
    have HSPL := Lib.hid (show ∀ d, CanonS s.data.toList d → 1 ≤ kd ∧ d.kind = kd ∧ LB.map (·.data.toList) = pieces d ((usesF d.kind).getD []) from fun d hd => by
      obtain ⟨h1, h2⟩ := canon_split hpf hd
      obtain ⟨h3, h4, h5⟩ := canon_kind hd
      have h6 : WD = ⟨(wordK d.kind).toArray⟩ := ByteArray.ext (Array.toList_inj.1 (by rw [hx, h1]))
      have h7 : d.kind = kd := by rw [← h5, ← h6, HKD.out]
      exact ⟨by omega, h7, by rw [hps, h2]⟩)
    have hfew := partsF_few hpf
    rw [← hps, HLEN.out, List.length_map] at hfew
    have HFEW := Lib.hid (show ∀ (k : Nat) (h : k < LB.length), LB[k].size ≤ 300 from fun k h => by
      have h1 := hfew.2.2 LB[k].data.toList (List.mem_map_of_mem (List.getElem_mem h))
      rw [← Lib.size_eq] at h1
      omega)
    have hLB : 0 < LB.length ∧ LB.length ≤ 301 := ⟨hfew.1, by omega⟩
    clear hfew hpf hx hps HPS
    by_cases hk0 : kd = 0
    case pos =>
      subst hk0
      have HNO := Lib.hid (show ∀ d, ¬ CanonS s.data.toList d from fun d hd => absurd (HSPL.out d hd).1 (by decide))
      have f0 := HF.out.fz 0
      have f1 := HF.out.fz 1
      have f2 := HF.out.fz 2
      have f3 := HF.out.fz 3
      have f4 := HF.out.fz 4
      have f5 := HF.out.fz 5
      have f6 := HF.out.fz 6
      have f7 := HF.out.fz 7
      have f8 := HF.out.fz 8
      have f9 := HF.out.fz 9
      have fA := HF.out.fz 10
      have rl := HF.out.lt
      have r0 := HF.out.at.g0
      have r1 := HF.out.at.g1
      have r2 := HF.out.at.g2
      have r3 := HF.out.at.g3
      have r4 := HF.out.at.g4
      have r5 := HF.out.at.g5
      have r6 := HF.out.at.g6
      have r7 := HF.out.at.g7
      have r8 := HF.out.at.g8
      have r9 := HF.out.at.g9
      have rA := HF.out.at.gA
      have o0 : w9.cell? ⟨q4, 0, none⟩ = some (.int .u8 0) := HZ.out.at.g0
      have o1 : w9.cell? ⟨q4, 1, none⟩ = some (.int .i64 0) := HZ.out.at.g1
      have o2 : w9.cell? ⟨q4, 2, none⟩ = some (.int .i64 0) := HZ.out.at.g2
      have o3 : w9.cell? ⟨q4, 3, none⟩ = some (.int .i64 0) := HZ.out.at.g3
      have o4 : w9.cell? ⟨q4, 4, none⟩ = some (.int .i64 0) := HZ.out.at.g4
      have o5 : w9.cell? ⟨q4, 5, none⟩ = some (.int .i64 0) := HZ.out.at.g5
      have o6 : w9.cell? ⟨q4, 6, none⟩ = some (.int .i64 0) := HZ.out.at.g6
      have o7 : w9.cell? ⟨q4, 7, none⟩ = some (.int .u8 0) := HZ.out.at.g7
      have o8 : w9.cell? ⟨q4, 8, none⟩ = some (.slice none 0 0) := HZ.out.at.g8
      have o9 : w9.cell? ⟨q4, 9, none⟩ = some (.int .i64 0) := HZ.out.at.g9
      have oA : w9.cell? ⟨q4, 10, none⟩ = some (.int .i64 0) := HZ.out.at.gA
      go_wp2_with fail
      have hZ : CBlk (((((((((((w9.setCell ⟨w.heap.size, 0, none⟩ (.int .u8 0)).setCell ⟨w.heap.size, 1, none⟩ (.int .i64 0)).setCell ⟨w.heap.size, 2, none⟩ (.int .i64 0)).setCell ⟨w.heap.size, 3, none⟩ (.int .i64 0)).setCell ⟨w.heap.size, 4, none⟩ (.int .i64 0)).setCell ⟨w.heap.size, 5, none⟩ (.int .i64 0)).setCell ⟨w.heap.size, 6, none⟩ (.int .i64 0)).setCell ⟨w.heap.size, 7, none⟩ (.int .u8 0)).setCell ⟨w.heap.size, 8, none⟩ (.slice none 0 0)).setCell ⟨w.heap.size, 9, none⟩ (.int .i64 0)).setCell ⟨w.heap.size, 10, none⟩ (.int .i64 0)) w.heap.size #[.int .u8 0, .int .i64 0, .int .i64 0, .int .i64 0, .int .i64 0, .int .i64 0, .int .i64 0, .int .u8 0, .slice none 0 0, .int .i64 0, .int .i64 0] := fill_blk HF.out rfl (.int .u8 0) (.int .i64 0) (.int .i64 0) (.int .i64 0) (.int .i64 0) (.int .i64 0) (.int .i64 0) (.int .u8 0) (.slice none 0 0) (.int .i64 0) (.int .i64 0)
      have x0 := hZ.cell 0 (.int .u8 0) rfl
      have x1 := hZ.cell 1 (.int .i64 0) rfl
      have x2 := hZ.cell 2 (.int .i64 0) rfl
      have x3 := hZ.cell 3 (.int .i64 0) rfl
      have x4 := hZ.cell 4 (.int .i64 0) rfl
      have x5 := hZ.cell 5 (.int .i64 0) rfl
      have x6 := hZ.cell 6 (.int .i64 0) rfl
      have x7 := hZ.cell 7 (.int .u8 0) rfl
      have x8 := hZ.cell 8 (.slice none 0 0) rfl
      have x9 := hZ.cell 9 (.int .i64 0) rfl
      have xA := hZ.cell 10 (.int .i64 0) rfl
      refine bodyPost_ret (v := .tuple #[.agg #[.int .u8 0, .int .i64 0, .int .i64 0, .int .i64 0, .int .i64 0, .int .i64 0, .int .i64 0, .int .u8 0, .slice none 0 0, .int .i64 0, .int .i64 0], .int .i64 160]) (by simp [results, Tryd.results10, go_sem, x0, x1, x2, x3, x4, x5, x6, x7, x8, x9, xA]) rfl ?_
      exact ⟨zeroCl, none, 0, 160, rfl, fun k hk => absurd hk (by simp [zeroCl]), fill_below HB.out (Nat.le_refl _) (.int .u8 0) (.int .i64 0) (.int .i64 0) (.int .i64 0) (.int .i64 0) (.int .i64 0) (.int .i64 0) (.int .u8 0) (.slice none 0 0) (.int .i64 0) (.int .i64 0), .inr ⟨rfl, rfl, parse_end_none HNO.out⟩⟩
    case neg =>
    have hk1 : 1 ≤ kd := by omega
    have hkz : (kd == 0) = false := by simpa using hk0

    obtain ⟨rd, hrd⟩ : ∃ b, red5 kd = b := ⟨_, rfl⟩
    have HRD := Lib.hid (hrd ▸ reduces16_any kd w9)
    have HRE := Lib.hid hrd
    clear hrd
    go_upto_region 6 with fail
    go_wp2_with fail
    refine HRD.out.mono ?_
    rintro e w9 ⟨rfl, rfl⟩
    clear HRD
    go_upto_if 39 with fail

    obtain ⟨LAST, hLAST⟩ : ∃ x, LB[LB.length - 1] = x := ⟨_, rfl⟩
    have HLAST := Lib.hid hLAST
    clear hLAST
    have HCUT := Lib.hid (fun (n op : Nat) => fun (h : op ≤ 3 ∧ n ≤ LB.length ∧ (rd = false → op = 0 ∧ n = LB.length) ∧ (rd = true → n = LB.length - 1 ∧ ((op ≤ 2 ∧ redK op = LAST.data.toList) ∨ (op = 3 ∧ ∀ m : Nat, m < 3 → redK m ≠ LAST.data.toList)))) => (show ∀ d, CanonS s.data.toList d → ((LB.take n).map (·.data.toList) = (clNums d ((usesF d.kind).getD [])).map Lib.itoa ∧ refCl d.kind d.op = refCl kd op) from fun d hd => by
      obtain ⟨h1, h2, h3⟩ := HSPL.out d hd
      obtain ⟨ho, hn, hr0, hr1⟩ := h
      have hu9 := uses_nine kd
      have hr := HRE.out
      subst h2
      cases rd with
      | false =>
        obtain ⟨e1, e2⟩ := hr0 rfl
        rw [hr] at hu9
        rw [e2, List.take_length, h3, pieces_plain d _ hu9]
        exact ⟨rfl, funext fun l => refCl_op hr l⟩
      | true =>
        obtain ⟨e2, e3⟩ := hr1 rfl
        rw [hr] at hu9
        obtain ⟨g1, g2, g3⟩ := pieces_red d _ hu9
        have e4 : (LB.take n).map (·.data.toList) = (pieces d ((usesF d.kind).getD [])).dropLast := by
          rw [← h3, e2, List.dropLast_eq_take, List.length_map, List.map_take]
        have e5 : (pieces d ((usesF d.kind).getD [])).getLast? = some LAST.data.toList := by
          rw [← h3, List.getLast?_eq_getElem?, List.length_map, List.getElem?_map, List.getElem?_eq_getElem (by omega), HLAST.out]
          rfl
        refine ⟨by rw [e4, g2], ?_⟩
        have e6 := canon_red hd hu9 e5 (Int.natCast_nonneg op) (by
          rcases e3 with ⟨a, b⟩ | ⟨a, b⟩
          · exact .inl ⟨by omega, b⟩
          · refine .inr ⟨by omega, fun m m0 m2 => ?_⟩
            have := b m.toNat (by omega)
            rwa [Int.toNat_of_nonneg m0] at this)
        rw [e6]))
    go_cut [6] (fun v6 wx => ∃ (n op : Nat), v6 = .slice A n cA ∧ n ≤ LB.length ∧ op ≤ 3 ∧ (rd = false → op = 0) ∧ Hid (ClBlk wx q8 { kindCl kd with op := (op : Int) } none 0) ∧ Hid (Kp q8 w9 wx) ∧ Hid (∀ d, CanonS s.data.toList d → ((LB.take n).map (·.data.toList) = (clNums d ((usesF d.kind).getD [])).map Lib.itoa ∧ refCl d.kind d.op = refCl kd op)))
    case first =>
      cases rd
      case false =>
        go_wp2_with fail
        go_meet
        case rel => exact ⟨LB.length, 0, by simp, by omega, by omega, fun _ => rfl, HC, Lib.hid (Kp.refl _ _), Lib.hid (HCUT.out LB.length 0 ⟨by omega, by omega, fun _ => ⟨rfl, rfl⟩, fun h => by cases h⟩)⟩
      case true =>
        obtain ⟨n1, hn1⟩ : ∃ n, LB.length = n + 1 := ⟨LB.length - 1, by omega⟩
        obtain ⟨bl, ol, hA, hbl, hcl⟩ := HROW.out n1 (by omega)
        have HCL := Lib.hid (show ∀ wx, Kp q8 w9 wx → wx.cell? ⟨bl, ol + n1, none⟩ = some (.string LAST) from fun wx hk => by
          have hb8 : bl < q8 := HQ8.out.2.2 ⟨bl, ol, none⟩ hA
          rw [cell_of_block (hk.2.2 bl (by omega) hbl), hcl, ← HLAST.out]
          simp only [hn1, Nat.add_sub_cancel])
        have HN1 := Lib.hid hn1
        have hn9 : (LB.length : Int) - 1 = (n1 : Int) := by omega
        have hn8 : n1 < LB.length := by omega
        have hnc : n1 ≤ cA := by omega
        have hw8 : IntKind.i64.wrap (n1 : Int) = (n1 : Int) := IntWalk.i64_in _ (by omega)
        have hn0 : (0 : Int) ≤ (n1 : Int) := by omega
        have hn7 : (n1 : Int) < (LB.length : Int) := by omega
        subst hA
        clear hcl hbl hn1
        go_wp2_with fail
        go_loopg [] 5 (fun g wx => ∃ op : Nat, op ≤ 3 ∧ 3 - op < g ∧ Hid (ClBlk wx q8 { kindCl kd with op := (op : Int) } none 0) ∧ Hid (Kp q8 w9 wx) ∧ Hid (∀ m : Nat, m < op → redK m ≠ LAST.data.toList))
        case atStart => exact ⟨0, by omega, by omega, HC, Lib.hid (Kp.refl _ _), Lib.hid (fun m hm => by omega)⟩
        case round =>
          obtain ⟨op, hop, hg, HCO, HK, HNE⟩ := hrel
          obtain ⟨g, rfl⟩ : ∃ g, gk = g + 1 := ⟨gk - 1, by omega⟩
          have c7 : wr.cell? ⟨q8, 7, none⟩ = some (.int .u8 (op : Int)) := HCO.out.at.g7
          have cl := HCL.out wr HK.out
          have k7 := fun d os => cell_regrown c7 d os
          have kl := fun d os => cell_regrown cl d os
          by_cases hlt : op < 3
          · have hd : decide ((op : Int) < 3) = true := by simp; omega
            obtain ⟨RT, hRT⟩ : ∃ t : ByteArray, (⟨(redK op).toArray⟩ : ByteArray) = t := ⟨_, rfl⟩
            have HRC := Lib.hid (fun wx => (red16_any op (by omega) (by omega) wx).mono (fun e w' h => (show e = .returned (.string RT) ∧ Below wx.heap.size wx w' from ⟨by rw [h.1, hRT], by rw [h.2]; exact Below.refl _ _⟩)))
            have HRT := Lib.hid hRT
            clear hRT
            go_upto_region 7 with fail
            refine wp_region_quiet_below (by kernel_rfl) (by kernel_rfl) ?_
            repeat (quiet_step (with_reducible exact Calls.regrown_of (HRC.out _)))
            refine wpQuiet_nil ?_
            intro _ hw'
            obtain ⟨⟨dq, osq⟩, hw''⟩ := hw'
            subst hw''
            have HBQ := Lib.hid (below_regrown wr dq osq)
            have HK2 := Lib.hid (HK.out.later (HC.out.lt) HBQ.out)
            have HCO2 := Lib.hid (HCO.out.below HBQ.out)
            clear c7 cl k7 kl HRC HBQ HK HCO
            generalize grow (redrawn wr dq) osq = wy at *
            cases hcmp : (RT.toList == LAST.toList)
            case false =>
              have c7 : wy.cell? ⟨q8, 7, none⟩ = some (.int .u8 (op : Int)) := HCO2.out.at.g7
              have f7 := HCO2.out.fz 7
              have l7 := HCO2.out.lt
              have hwr : IntKind.u8.wrap ((op : Int) + 1) = ((op + 1 : Nat) : Int) := by rw [IntWalk.u8_in _ (by omega)]; omega
              have HQ := Lib.hid (show ClBlk (wy.setCell ⟨q8, 7, none⟩ (.int .u8 ((op + 1 : Nat) : Int))) q8 { kindCl kd with op := ((op + 1 : Nat) : Int) } none 0 from by
                have h := CBlk.set HCO2.out 7 (.int .u8 ((op + 1 : Nat) : Int))
                simpa [CBlk, ClBlk, clCells] using h)
              have HK3 := Lib.hid (HK2.out.set 7 (.int .u8 ((op + 1 : Nat) : Int)))
              have HNE2 := Lib.hid (show ∀ m : Nat, m < op + 1 → redK m ≠ LAST.data.toList from fun m hm => by
                by_cases e : m = op
                · subst e
                  intro h
                  have h2 : RT = LAST := by
                    rw [← HRT.out, h]

                  rw [h2] at hcmp
                  simp at hcmp
                · exact HNE.out m (by omega))
              go_wp2_with fail
              go_roundg g
              case measure => omega
              case rel => exact ⟨op + 1, by omega, by omega, by simpa using HQ, by simpa using HK3, HNE2⟩
            case true =>
              have heq : redK op = LAST.data.toList := by
                rw [beq_iff_eq, ByteArray.toList_eq, ByteArray.toList_eq] at hcmp
                rw [← hcmp, ← HRT.out]
              have HEQ := Lib.hid heq
              have HREL := Lib.hid (HCUT.out n1 op ⟨by omega, by omega, (fun h => by cases h), fun _ => ⟨by omega, .inl ⟨by omega, HEQ.out⟩⟩⟩)
              clear heq
              go_wp2_with fail
              go_meet
              case rel => exact ⟨n1, op, by simp, by omega, by omega, (fun h => by cases h), HCO2, HK2, HREL⟩
          · have h3 : op = 3 := by omega
            subst h3
            clear c7 k7 kl cl hlt
            have c7 : wr.cell? ⟨q8, 7, none⟩ = some (.int .u8 3) := HCO.out.at.g7
            have k7 := fun d os => cell_regrown c7 d os
            go_upto_region 7 with fail
            refine wp_region_quiet_below (by kernel_rfl) (by kernel_rfl) ?_
            repeat (quiet_step (fail))
            refine wpQuiet_nil ?_
            intro _ hw'
            obtain ⟨⟨dq, osq⟩, hw''⟩ := hw'
            subst hw''
            have HBQ := Lib.hid (below_regrown wr dq osq)
            have HK2 := Lib.hid (HK.out.later (HC.out.lt) HBQ.out)
            have HCO2 := Lib.hid (HCO.out.below HBQ.out)
            clear c7 k7 HBQ HK HCO
            generalize grow (redrawn wr dq) osq = wy at *
            have HREL := Lib.hid (HCUT.out n1 3 ⟨by omega, by omega, (fun h => by cases h), fun _ => ⟨by omega, .inr ⟨rfl, HNE.out⟩⟩⟩)
            go_wp2_with fail
            go_meet
            case rel => exact ⟨n1, 3, by simp, by omega, by omega, (fun h => by cases h), HCO2, HK2, HREL⟩
    case rest =>
      obtain ⟨n, op, rfl, hn, hop, hop0, HC2, HK2, HD⟩ := hcut

      clear HC HCUT HLAST
      have HSR := Lib.hid (show ∀ wx, Kp q8 w9 wx → StrRow wx A LB from fun wx hk => HROW.out.kept (fun b hb ⟨a, ha, e⟩ => hk.2.2 b (by have := HQ8.out.2.2 a ha; omega) hb))
      have HFW := Lib.hid (show ∀ wx, Kp q8 w9 wx → ClBlk wx w.heap.size zeroCl none 0 from fun wx hk => (hk.2.2 w.heap.size (by have := HQ8.out.1; omega) HF.out.lt).trans HF.out)
      have HZW := Lib.hid (show ∀ wx, Kp q8 w9 wx → ClBlk wx q4 zeroCl none 0 from fun wx hk => (hk.2.2 q4 (by have := HQ8.out.2.1; omega) HZ.out.lt).trans HZ.out)
      have HBW := Lib.hid (show ∀ wx, Kp q8 w9 wx → Below w.heap.size w wx from fun wx hk => HB.out.trans (hk.1.mono (by have := HQ8.out.1; omega)))
      have HQK := Lib.hid (show q8 < w9.heap.size from HCL9.out)
      clear HROW HF HZ HB HCL9 p0
      go_upto_region 10 with fail
      go_wp2_with fail
      go_loopg [9, 10] (n + 2) (fun g l i wx => ∃ (k cl : Nat) (BL : Option Addr) (L : List Int), l = .slice BL k cl ∧ i = .int .i64 k ∧ k ≤ n ∧ n - k < g ∧ Hid (L.length = k) ∧ Hid (L.map Lib.itoa = (LB.take k).map (·.data.toList)) ∧ Hid (∀ x ∈ L, I64 x) ∧ Hid (wx.ownsRow w9.heap.size 2 1 (.slice BL k cl) k (L.map (Value.int .i64))) ∧ Hid (ClBlk wx q8 { kindCl kd with op := (op : Int) } none 0) ∧ Hid (Kp q8 w9 wx))
      case atStart => exact ⟨0, 0, none, [], rfl, rfl, by omega, by omega, Lib.hid rfl, Lib.hid (by simp), Lib.hid (fun x hx => absurd hx (by simp)), Lib.hid (World.ownsRow_nil _ _ _ _), HC2, HK2⟩
      case round =>
        clear HC2 HK2
        obtain ⟨k, cl, BL, L, rfl, rfl, hk, hg, HL, HM, HLI, HOW, HC, HK⟩ := hrel
        obtain ⟨g, rfl⟩ : ∃ g, gk = g + 1 := ⟨gk - 1, by omega⟩
        by_cases hlt : k < n
        · have hlt' : k < LB.length := by omega
          have hd : decide (k < n) = true := by simpa using hlt
          obtain ⟨bA, oA, hA, _, c0⟩ := HSR.out wr HK.out k hlt'
          have HX := Lib.hid (HFEW.out k hlt')
          have HXM := Lib.hid (show LB[k].data.toList ∈ (LB.take n).map (·.data.toList) from List.mem_map_of_mem (List.mem_take_iff_getElem.2 ⟨k, by omega, rfl⟩))
          have HTK := Lib.hid (show (LB.take (k + 1)).map (·.data.toList) = (LB.take k).map (·.data.toList) ++ [LB[k].data.toList] by rw [List.take_succ_eq_append_getElem hlt', List.map_append]; rfl)
          generalize LB[k] = X at *
          have HNU := Lib.hid (number16p_any X (by have := HX.out; omega) wr)
          subst hA
          go_upto_region 14 with fail
          go_wp2_with fail
          refine HNU.out.mono ?_
          rintro e wy ⟨v, b, rfl, hsaid, hby⟩
          have HSAID := Lib.hid hsaid
          have HK2 := Lib.hid (HK.out.later HQK.out hby)
          have HC2 := Lib.hid (HC.out.below hby)
          have HOW2 := Lib.hid (own_below5 HOW.out hby)
          clear hsaid hby HNU c0 HK HC HOW
          cases b
          case false =>
            have HNO := Lib.hid (show ∀ d, ¬ CanonS s.data.toList d from fun d hd => canon_bad hd (by rw [← (HD.out d hd).1]; exact HXM.out) (HSAID.out.2.2 rfl))
            have HZ := Lib.hid (HZW.out wy HK2.out)
            have HF := Lib.hid (HFW.out wy HK2.out)
            have HB := Lib.hid (HBW.out wy HK2.out)
            have f0 := HF.out.fz 0
            have f1 := HF.out.fz 1
            have f2 := HF.out.fz 2
            have f3 := HF.out.fz 3
            have f4 := HF.out.fz 4
            have f5 := HF.out.fz 5
            have f6 := HF.out.fz 6
            have f7 := HF.out.fz 7
            have f8 := HF.out.fz 8
            have f9 := HF.out.fz 9
            have fA := HF.out.fz 10
            have rl := HF.out.lt
            have r0 := HF.out.at.g0
            have r1 := HF.out.at.g1
            have r2 := HF.out.at.g2
            have r3 := HF.out.at.g3
            have r4 := HF.out.at.g4
            have r5 := HF.out.at.g5
            have r6 := HF.out.at.g6
            have r7 := HF.out.at.g7
            have r8 := HF.out.at.g8
            have r9 := HF.out.at.g9
            have rA := HF.out.at.gA
            have o0 : wy.cell? ⟨q4, 0, none⟩ = some (.int .u8 0) := HZ.out.at.g0
            have o1 : wy.cell? ⟨q4, 1, none⟩ = some (.int .i64 0) := HZ.out.at.g1
            have o2 : wy.cell? ⟨q4, 2, none⟩ = some (.int .i64 0) := HZ.out.at.g2
            have o3 : wy.cell? ⟨q4, 3, none⟩ = some (.int .i64 0) := HZ.out.at.g3
            have o4 : wy.cell? ⟨q4, 4, none⟩ = some (.int .i64 0) := HZ.out.at.g4
            have o5 : wy.cell? ⟨q4, 5, none⟩ = some (.int .i64 0) := HZ.out.at.g5
            have o6 : wy.cell? ⟨q4, 6, none⟩ = some (.int .i64 0) := HZ.out.at.g6
            have o7 : wy.cell? ⟨q4, 7, none⟩ = some (.int .u8 0) := HZ.out.at.g7
            have o8 : wy.cell? ⟨q4, 8, none⟩ = some (.slice none 0 0) := HZ.out.at.g8
            have o9 : wy.cell? ⟨q4, 9, none⟩ = some (.int .i64 0) := HZ.out.at.g9
            have oA : wy.cell? ⟨q4, 10, none⟩ = some (.int .i64 0) := HZ.out.at.gA
            go_wp2_with fail
            have hZ : CBlk (((((((((((wy.setCell ⟨w.heap.size, 0, none⟩ (.int .u8 0)).setCell ⟨w.heap.size, 1, none⟩ (.int .i64 0)).setCell ⟨w.heap.size, 2, none⟩ (.int .i64 0)).setCell ⟨w.heap.size, 3, none⟩ (.int .i64 0)).setCell ⟨w.heap.size, 4, none⟩ (.int .i64 0)).setCell ⟨w.heap.size, 5, none⟩ (.int .i64 0)).setCell ⟨w.heap.size, 6, none⟩ (.int .i64 0)).setCell ⟨w.heap.size, 7, none⟩ (.int .u8 0)).setCell ⟨w.heap.size, 8, none⟩ (.slice none 0 0)).setCell ⟨w.heap.size, 9, none⟩ (.int .i64 0)).setCell ⟨w.heap.size, 10, none⟩ (.int .i64 0)) w.heap.size #[.int .u8 0, .int .i64 0, .int .i64 0, .int .i64 0, .int .i64 0, .int .i64 0, .int .i64 0, .int .u8 0, .slice none 0 0, .int .i64 0, .int .i64 0] := fill_blk HF.out rfl (.int .u8 0) (.int .i64 0) (.int .i64 0) (.int .i64 0) (.int .i64 0) (.int .i64 0) (.int .i64 0) (.int .u8 0) (.slice none 0 0) (.int .i64 0) (.int .i64 0)
            have x0 := hZ.cell 0 (.int .u8 0) rfl
            have x1 := hZ.cell 1 (.int .i64 0) rfl
            have x2 := hZ.cell 2 (.int .i64 0) rfl
            have x3 := hZ.cell 3 (.int .i64 0) rfl
            have x4 := hZ.cell 4 (.int .i64 0) rfl
            have x5 := hZ.cell 5 (.int .i64 0) rfl
            have x6 := hZ.cell 6 (.int .i64 0) rfl
            have x7 := hZ.cell 7 (.int .u8 0) rfl
            have x8 := hZ.cell 8 (.slice none 0 0) rfl
            have x9 := hZ.cell 9 (.int .i64 0) rfl
            have xA := hZ.cell 10 (.int .i64 0) rfl
            refine bodyPost_ret (v := .tuple #[.agg #[.int .u8 0, .int .i64 0, .int .i64 0, .int .i64 0, .int .i64 0, .int .i64 0, .int .i64 0, .int .u8 0, .slice none 0 0, .int .i64 0, .int .i64 0], .int .i64 160]) (by simp [results, Tryd.results10, go_sem, x0, x1, x2, x3, x4, x5, x6, x7, x8, x9, xA]) rfl ?_
            exact ⟨zeroCl, none, 0, 160, rfl, fun k hk => absurd hk (by simp [zeroCl]), fill_below HB.out (Nat.le_refl _) (.int .u8 0) (.int .i64 0) (.int .i64 0) (.int .i64 0) (.int .i64 0) (.int .i64 0) (.int .i64 0) (.int .u8 0) (.slice none 0 0) (.int .i64 0) (.int .i64 0), .inr ⟨rfl, rfl, parse_end_none HNO.out⟩⟩
          case true =>
            have HIT := Lib.hid (show (L ++ [v]).map Lib.itoa = (LB.take (k + 1)).map (·.data.toList) by
              rw [HTK.out, List.map_append, HM.out, List.map_singleton, HSAID.out.2.1 rfl])
            have HLI2 := Lib.hid (show ∀ x ∈ L ++ [v], I64 x from fun x hx => by
              rcases List.mem_append.1 hx with hx | hx
              · exact HLI.out x hx
              · rw [List.mem_singleton.1 hx]
                exact HSAID.out.1)
            have hab : Below wy.heap.size wy (wy.alloc (.cells #[.int .i64 v] 2)) := (Below.refl _ _).alloc (Nat.le_refl _) _
            have HO7 := Lib.hid (HOW2.out.alloc (.cells #[.int .i64 v] 2))
            have HK7 := Lib.hid (HK2.out.later HQK.out hab)
            have HC7 := Lib.hid (HC2.out.below hab)
            have HNEWS := Lib.hid (World.news_of_block (w := wy.alloc (.cells #[.int .i64 v] 2)) (B := wy.heap.size) (cs := #[.int .i64 v]) (t := 2) (fr := (0, 0)) (heap_alloc_new _ _))
            have HONE := Lib.hid (show ∀ y ∈ [Value.int .i64 v], y.oneCell' = true by simp [Value.oneCell'])
            have H63 := Lib.hid (show k + 1 ≤ maxLen by unfold maxLen; omega)
            have HBY := Lib.hid (show (k + 1) * 8 ≤ 140737488355328 by omega)
            have HBASE := Lib.hid (show w9.heap.size ≤ (wy.alloc (.cells #[.int .i64 v] 2)).heap.size from HK7.out.2.1)
            clear hab HM HTK HXM HSAID HLI HX
            go_wp2_with (at_builtin; refine wpList_append_lies _ rfl (.tmp 81) (.tmp 83) 22 rfl w9.heap.size 2 i2 _ 1 8 Tryd.underlying22 H2.out.1 H2.out.2.1 H2.out.2.2.1 H2.out.2.2.2 rfl (by decide) (.slice BL k cl) k _ rfl HO7.out ⟨wy.heap.size, 0, none⟩ 1 1 [Value.int .i64 v] rfl rfl HNEWS.out HONE.out (by decide) H63.out HBY.out HBASE.out _ rfl ?_)
            intro g3 cp3 w8 hown hgrow _ _
            have hne := own_ne_blk HO7.out HC7.out (by decide)
            have HC8 := Lib.hid (show ClBlk w8 q8 { kindCl kd with op := (op : Int) } none 0 from (hgrow.block _ HC7.out.lt (fun e => hne e.symm)).trans HC7.out)
            have HK8 := Lib.hid (HK7.out.grown HQK.out hgrow (fun g e => (HO7.out.lt g e).1))
            have HO8 := Lib.hid (show w8.ownsRow w9.heap.size 2 1 (.slice (some ⟨g3, 0, none⟩) (k + 1) cp3) (k + 1) ((L ++ [v]).map (Value.int .i64)) by rw [List.map_append]; exact hown)
            clear hne hgrow hown HO7 HK7 HC7 HNEWS HONE H63 HBY HBASE HK2 HC2 HOW2
            go_wp2_with fail
            go_roundg g
            case measure => omega
            case rel => exact ⟨k + 1, cp3, some ⟨g3, 0, none⟩, L ++ [v], rfl, by go_num, by omega, by omega, Lib.hid (by rw [List.length_append, HL.out]; rfl), HIT, HLI2, HO8, by simpa using HC8, HK8⟩
        · obtain rfl : k = n := by omega
          have hd : decide (k < k) = false := by simp
          have HFIN := Lib.hid (show ∀ d, CanonS s.data.toList d → d.kind = kd ∧ L = clNums d ((usesF kd).getD []) ∧ d = refCl kd op L from fun d hd => by
            obtain ⟨h1, h2⟩ := HD.out d hd
            have h3 := canon_nums hd HLI.out (by rw [HM.out, h1])
            have h4 := canon_fields hd
            have h5 := (HSPL.out d hd).2.1
            refine ⟨h5, by rw [← h5]; exact h3, ?_⟩
            rw [h2, ← h3] at h4
            exact h4)
          clear HM HD HSPL

          have hIR := intRow_of_own64 HL.out HOW.out
          have HLR := Lib.hid (show ∀ wx, Kp q8 wr wx → IntRow wx BL L from fun wx hk => hIR.1.keptB (fun b hb ⟨a, ha, e⟩ => hk.2.2 b (by have := (hIR.2 a ha).1; have := HQK.out; omega) hb))
          have HBLQ := Lib.hid (show ∀ a, BL = some a → q8 < a.block from fun a ha => by have := (hIR.2 a ha).1; have := HQK.out; omega)
          have HSZ := Lib.hid (show q8 < wr.heap.size from HC.out.lt)
          obtain ⟨US, hUS⟩ : ∃ t : ByteArray, (⟨(usesS kd).toArray⟩ : ByteArray) = t := ⟨_, rfl⟩
          have HRU := Lib.hid (hUS ▸ ruses_any kd wr)
          obtain ⟨isl, hisl⟩ : ∃ b, (US.toList == [108]) = b := ⟨_, rfl⟩
          have HISL := Lib.hid (show (usesS kd == [108]) = isl by rw [← hisl, ← hUS, ByteArray.toList_eq])
          have HUS := Lib.hid hUS
          clear hUS hIR HOW
          go_upto_region 18 with fail
          have c0 : wr.cell? ⟨q8, 0, none⟩ = some (.int .u8 kd) := HC.out.at.g0
          go_wp2_with fail
          refine HRU.out.mono ?_
          rintro e w5 ⟨rfl, rfl⟩
          clear HRU
          go_upto_if 89 with fail
          clear hisl c0
          go_cut [] (fun wx => ∃ (B : Option Addr) (cb : Nat), Hid (ClBlk wx q8 (refCl kd op L) B cb) ∧ Hid (IntApart wx B (refCl kd op L).reqs w.heap.size w.heap.size) ∧ Hid (Kp q8 w9 wx))
          case first =>
            cases isl
            case true =>
              have h8 := usesS_l HISL.out
              have hop1 : op = 0 := hop0 (by rw [← HRE.out]; rcases h8 with rfl | rfl | rfl | rfl | rfl <;> rfl)
              subst hop1
              have HRF := Lib.hid (show refCl kd ((0 : Nat) : Int) L = ⟨kd, 0, 0, 0, 0, 0, 0, 0, L, 0, 0⟩ by
                unfold refCl
                rw [if_neg (by omega), if_neg (by omega), if_pos h8])
              clear h8 hop0
              have HC5 := Lib.hid (show CBlk w5 q8 #[.int .u8 kd, .int .i64 0, .int .i64 0, .int .i64 0, .int .i64 0, .int .i64 0, .int .i64 0, .int .u8 0, .slice none 0 0, .int .i64 0, .int .i64 0] from HC.out)
              clear HC
              go_upto_region 20 with fail
              go_wp2_with fail
              go_loopg [14] (k + 2) (fun g i wx => ∃ (m cb : Nat) (B : Option Addr), i = .int .i64 m ∧ m ≤ k ∧ k - m < g ∧ Hid (CBlk wx q8 #[.int .u8 kd, .int .i64 0, .int .i64 0, .int .i64 0, .int .i64 0, .int .i64 0, .int .i64 0, .int .u8 0, .slice B m cb, .int .i64 0, .int .i64 0]) ∧ Hid (wx.ownsRow w5.heap.size 3 1 (.slice B m cb) m ((L.take m).map (Value.int .i64))) ∧ Hid (Kp q8 w5 wx))
              case atStart => exact ⟨0, 0, none, rfl, by omega, by omega, HC5, Lib.hid (World.ownsRow_nil _ _ _ _), Lib.hid (Kp.refl _ _)⟩
              case round =>
                clear HC5
                obtain ⟨m, cb, B, rfl, hm, hg2, HQ, HOW, HKW⟩ := hrel
                obtain ⟨g2, rfl⟩ : ∃ g2', gk = g2' + 1 := ⟨gk - 1, by omega⟩
                by_cases hlt2 : m < k
                · have hd2 : decide (m < k) = true := by simpa using hlt2
                  have hmL : m < L.length := by rw [HL.out]; exact hlt2
                  obtain ⟨bL, oL, hBL, hbl, c0⟩ := HLR.out wr HKW.out m hmL
                  have HTK := Lib.hid (show (L.take (m + 1)).map (Value.int .i64) = (L.take m).map (Value.int .i64) ++ [Value.int .i64 L[m]] by rw [List.take_succ_eq_append_getElem hmL, List.map_append]; rfl)
                  generalize L[m] = y at *
                  subst hBL
                  have c8 : wr.cell? ⟨q8, 8, none⟩ = some (.slice B m cb) := HQ.out.cell 8 _ rfl
                  have l8 : q8 < wr.heap.size := HQ.out.lt
                  have hab : Below wr.heap.size wr (wr.alloc (.cells #[.int .i64 y] 3)).drew := ((Below.refl _ _).alloc (Nat.le_refl _) _).drew
                  have HO7 := Lib.hid ((HOW.out.alloc (.cells #[.int .i64 y] 3)).drew)
                  have HQ7 := Lib.hid (HQ.out.below hab)
                  have HK7 := Lib.hid (HKW.out.later HSZ.out hab)
                  have HNEWS := Lib.hid (World.news_of_block (w := (wr.alloc (.cells #[.int .i64 y] 3)).drew) (B := wr.heap.size) (cs := #[.int .i64 y]) (t := 3) (fr := (0, 0)) (heap_alloc_new _ _))
                  have HONE := Lib.hid (show ∀ u ∈ [Value.int .i64 y], u.oneCell' = true by simp [Value.oneCell'])
                  have H63 := Lib.hid (show m + 1 ≤ maxLen by unfold maxLen; omega)
                  have HBY := Lib.hid (show (m + 1) * 8 ≤ 140737488355328 by omega)
                  have HBASE := Lib.hid (show w5.heap.size ≤ (wr.alloc (.cells #[.int .i64 y] 3)).drew.heap.size from HK7.out.2.1)
                  clear hab
                  go_upto_region 23 with fail
                  go_region_law (refine step_append_lies _ rfl (.tmp 97) (.tmp 102) 27 rfl w5.heap.size 3 i1 _ 1 8 Tryd.underlying27 H1.out.1 H1.out.2.1 H1.out.2.2.1 H1.out.2.2.2 rfl (by decide) (.slice B m cb) m _ (by simp [Act.eval, Act.put]) HO7.out ⟨wr.heap.size, 0, none⟩ 1 1 [Value.int .i64 y] (by simp [Act.eval, Act.put]) rfl HNEWS.out HONE.out (by decide) H63.out HBY.out HBASE.out _ rfl ?_; intro g3 cp3 w8 hown hgrow hat hlt8; have hq8 : CBlk w8 q8 #[.int .u8 kd, .int .i64 0, .int .i64 0, .int .i64 0, .int .i64 0, .int .i64 0, .int .i64 0, .int .u8 0, .slice B m cb, .int .i64 0, .int .i64 0] := (hgrow.block _ HQ7.out.lt (fun e => own_ne_blk HO7.out HQ7.out (by decide) e.symm)).trans HQ7.out; have f8 := hq8.fz 8; have l8 := hq8.lt; have p8 := hq8.cell 8 _ rfl)
                  all_goals
                    have HQ8' := Lib.hid (show CBlk (w8.setCell ⟨q8, 8, none⟩ (.slice (some ⟨g3, 0, none⟩) (m + 1) cp3)) q8 #[.int .u8 kd, .int .i64 0, .int .i64 0, .int .i64 0, .int .i64 0, .int .i64 0, .int .i64 0, .int .u8 0, .slice (some ⟨g3, 0, none⟩) (m + 1) cp3, .int .i64 0, .int .i64 0] from CBlk.set hq8 8 (.slice (some ⟨g3, 0, none⟩) (m + 1) cp3))
                    have HO8 := Lib.hid (show (w8.setCell ⟨q8, 8, none⟩ (.slice (some ⟨g3, 0, none⟩) (m + 1) cp3)).ownsRow w5.heap.size 3 1 (.slice (some ⟨g3, 0, none⟩) (m + 1) cp3) (m + 1) ((L.take (m + 1)).map (Value.int .i64)) by
                      rw [HTK.out]
                      exact ownsRow_setCell_other hown (a := ⟨q8, 8, none⟩) (own_ne_blk hown hq8 (by decide)) (.slice (some ⟨g3, 0, none⟩) (m + 1) cp3))
                    have HK8 := Lib.hid ((HK7.out.grown HSZ.out hgrow (fun g e => (HO7.out.lt g e).1)).set 8 (.slice (some ⟨g3, 0, none⟩) (m + 1) cp3))
                    clear hq8 f8 l8 p8 hown hgrow hat hlt8 HO7 HQ7 HK7 HNEWS HONE H63 HBY HBASE c0 c8 HQ HOW HKW HTK
                    try go_wp2_with fail
                    go_roundg g2
                    case measure => omega
                    case rel => exact ⟨m + 1, cp3, some ⟨g3, 0, none⟩, by go_num, by omega, by omega, HQ8', HO8, HK8⟩
                · obtain rfl : m = k := by omega
                  have hd2 : decide (m < m) = false := by simp
                  have HTL := Lib.hid (show L.take m = L by rw [← HL.out, List.take_length])
                  have HOW3 := HOW.out
                  rw [HTL.out] at HOW3
                  have HOW4 := Lib.hid HOW3
                  clear HOW3 HOW
                  have HR := Lib.hid (show ClBlk wr q8 (refCl kd ((0 : Nat) : Int) L) B cb by
                    rw [HRF.out]
                    show CBlk wr q8 #[.int .u8 kd, .int .i64 0, .int .i64 0, .int .i64 0, .int .i64 0, .int .i64 0, .int .i64 0, .int .u8 0, .slice B L.length cb, .int .i64 0, .int .i64 0]
                    rw [HL.out]
                    exact HQ.out)
                  have HAP := Lib.hid (show IntApart wr B (refCl kd ((0 : Nat) : Int) L).reqs w.heap.size w.heap.size by
                    rw [HRF.out]
                    have h1 := intRow_of_own64' HL.out HOW4.out
                    have h2 : ∀ a, B = some a → a.block ≠ w.heap.size := fun a ha => by
                      have := (h1.2 a ha).1
                      have := HSZ.out
                      have := HQ8.out.1
                      omega
                    exact ⟨h1.1, fun a ha => ⟨h2 a ha, h2 a ha⟩⟩)
                  have HKE := Lib.hid (HK.out.trans HKW.out)
                  clear HQ HOW4 HKW HTL
                  go_wp2_with fail
                  go_meet
                  case rel => exact ⟨B, cb, HR, HAP, HKE⟩
            case false =>
              have h8 : ¬ (kd = 8 ∨ kd = 9 ∨ kd = 10 ∨ kd = 11 ∨ kd = 12) := fun h => by
                have h2 := HISL.out
                rcases h with rfl | rfl | rfl | rfl | rfl <;> cases h2
              have HNUM := Lib.hid (show ∀ d, CanonS s.data.toList d → (k : Int) = argsLo kd from fun d hd => by
                have h3 := nums_args ⟨hk1, hkb.2⟩ h8 d
                rw [← (HFIN.out d hd).2.1, HL.out] at h3
                exact h3)
              have c0 : w5.cell? ⟨q8, 0, none⟩ = some (.int .u8 kd) := HC.out.at.g0
              have hcl : (kd = 1 ∨ kd = 2 ∨ kd = 3 ∨ kd = 4 ∨ kd = 5) ∨ (kd = 6 ∨ kd = 7 ∨ kd = 13 ∨ kd = 14) ∨ (kd = 15 ∨ kd = 20 ∨ kd = 22) ∨ (kd = 16 ∨ kd = 19) ∨ kd = 17 ∨ kd = 18 ∨ kd = 21 := by omega
              clear h8 HISL
              have HAR := Lib.hid (refArgs_any kd w5 (by omega) (by omega))
              rcases hcl with k1 | k1 | k1 | k1 | k1 | k1 | k1
              · have HSU := Lib.hid (show US = ⟨#[99, 112, 116, 118, 115]⟩ by rw [← HUS.out]; rcases k1 with rfl | rfl | rfl | rfl | rfl <;> rfl)
                have HLO := Lib.hid (show argsLo kd = 5 by rcases k1 with rfl | rfl | rfl | rfl | rfl <;> rfl)
                have hop1 : op = 0 := hop0 (by rw [← HRE.out]; rcases k1 with rfl | rfl | rfl | rfl | rfl <;> rfl)
                subst hop1
                have HRF := Lib.hid (show ∀ x0 x1 x2 x3 x4, refCl kd ((0 : Nat) : Int) [x0, x1, x2, x3, x4] = ⟨kd, x0, x1, x2, x3, x4, 0, 0, [], 0, 0⟩ from fun x0 x1 x2 x3 x4 => by
                  unfold refCl
                  rcases k1 with rfl | rfl | rfl | rfl | rfl <;> rfl)
                have HC5 := Lib.hid (show CBlk w5 q8 #[.int .u8 kd, .int .i64 0, .int .i64 0, .int .i64 0, .int .i64 0, .int .i64 0, .int .i64 0, .int .u8 (0 : Int), .slice none 0 0, .int .i64 0, .int .i64 0] from HC.out)
                clear k1 hop0 HC HUS
                have hus := HSU.out
                subst hus
                clear HSU
                have har := HAR.out
                rw [HLO.out] at har
                have HAR2 := Lib.hid har
                clear har HAR
                go_upto_region 24 with fail
                go_wp2_with fail
                refine HAR2.out.mono ?_
                rintro e w5 ⟨rfl, rfl⟩
                clear HAR2
                by_cases hkl : k = 5
                · subst hkl
                  obtain ⟨x0, x1, x2, x3, x4, rfl⟩ : ∃ x0 x1 x2 x3 x4, L = [x0, x1, x2, x3, x4] := by
                    have h := HL.out
                    match L, h with
                    | [x0, x1, x2, x3, x4], _ => exact ⟨x0, x1, x2, x3, x4, rfl⟩
                  obtain ⟨bL, oL, hBL, hbl, d0⟩ := HLR.out w5 (Kp.refl _ _) 0 (by simp)
                  obtain ⟨b9, o9, hB9, _, d1⟩ := HLR.out w5 (Kp.refl _ _) 1 (by simp)
                  rw [hBL] at hB9
                  cases hB9
                  obtain ⟨b9, o9, hB9, _, d2⟩ := HLR.out w5 (Kp.refl _ _) 2 (by simp)
                  rw [hBL] at hB9
                  cases hB9
                  obtain ⟨b9, o9, hB9, _, d3⟩ := HLR.out w5 (Kp.refl _ _) 3 (by simp)
                  rw [hBL] at hB9
                  cases hB9
                  obtain ⟨b9, o9, hB9, _, d4⟩ := HLR.out w5 (Kp.refl _ _) 4 (by simp)
                  rw [hBL] at hB9
                  cases hB9
                  have hbq : bL ≠ q8 := by
                    have h := HBLQ.out _ hBL
                    exact fun e => by rw [e] at h; exact absurd h (Nat.lt_irrefl _)
                  have hbq2 : q8 ≠ bL := fun e => hbq e.symm
                  subst hBL
                  simp only [List.getElem_cons_zero, List.getElem_cons_succ, Nat.add_zero] at d0 d1 d2 d3 d4
                  have f1 := HC5.out.fz 1
                  have p1 := HC5.out.cell 1 _ rfl
                  have f2 := HC5.out.fz 2
                  have p2 := HC5.out.cell 2 _ rfl
                  have f3 := HC5.out.fz 3
                  have p3 := HC5.out.cell 3 _ rfl
                  have f4 := HC5.out.fz 4
                  have p4 := HC5.out.cell 4 _ rfl
                  have f5 := HC5.out.fz 5
                  have p5 := HC5.out.cell 5 _ rfl
                  have l5 := HC5.out.lt
                  have s0 : CBlk (w5.setCell ⟨q8, 1, none⟩ (.int .i64 x0)) q8 #[.int .u8 kd, .int .i64 x0, .int .i64 0, .int .i64 0, .int .i64 0, .int .i64 0, .int .i64 0, .int .u8 (0 : Int), .slice none 0 0, .int .i64 0, .int .i64 0] := CBlk.set HC5.out 1 (.int .i64 x0)
                  have s1 : CBlk ((w5.setCell ⟨q8, 1, none⟩ (.int .i64 x0)).setCell ⟨q8, 2, none⟩ (.int .i64 x1)) q8 #[.int .u8 kd, .int .i64 x0, .int .i64 x1, .int .i64 0, .int .i64 0, .int .i64 0, .int .i64 0, .int .u8 (0 : Int), .slice none 0 0, .int .i64 0, .int .i64 0] := CBlk.set s0 2 (.int .i64 x1)
                  have s2 : CBlk (((w5.setCell ⟨q8, 1, none⟩ (.int .i64 x0)).setCell ⟨q8, 2, none⟩ (.int .i64 x1)).setCell ⟨q8, 3, none⟩ (.int .i64 x2)) q8 #[.int .u8 kd, .int .i64 x0, .int .i64 x1, .int .i64 x2, .int .i64 0, .int .i64 0, .int .i64 0, .int .u8 (0 : Int), .slice none 0 0, .int .i64 0, .int .i64 0] := CBlk.set s1 3 (.int .i64 x2)
                  have s3 : CBlk ((((w5.setCell ⟨q8, 1, none⟩ (.int .i64 x0)).setCell ⟨q8, 2, none⟩ (.int .i64 x1)).setCell ⟨q8, 3, none⟩ (.int .i64 x2)).setCell ⟨q8, 4, none⟩ (.int .i64 x3)) q8 #[.int .u8 kd, .int .i64 x0, .int .i64 x1, .int .i64 x2, .int .i64 x3, .int .i64 0, .int .i64 0, .int .u8 (0 : Int), .slice none 0 0, .int .i64 0, .int .i64 0] := CBlk.set s2 4 (.int .i64 x3)
                  have s4 : CBlk (((((w5.setCell ⟨q8, 1, none⟩ (.int .i64 x0)).setCell ⟨q8, 2, none⟩ (.int .i64 x1)).setCell ⟨q8, 3, none⟩ (.int .i64 x2)).setCell ⟨q8, 4, none⟩ (.int .i64 x3)).setCell ⟨q8, 5, none⟩ (.int .i64 x4)) q8 #[.int .u8 kd, .int .i64 x0, .int .i64 x1, .int .i64 x2, .int .i64 x3, .int .i64 x4, .int .i64 0, .int .u8 (0 : Int), .slice none 0 0, .int .i64 0, .int .i64 0] := CBlk.set s3 5 (.int .i64 x4)
                  have HR := Lib.hid (show ClBlk (((((w5.setCell ⟨q8, 1, none⟩ (.int .i64 x0)).setCell ⟨q8, 2, none⟩ (.int .i64 x1)).setCell ⟨q8, 3, none⟩ (.int .i64 x2)).setCell ⟨q8, 4, none⟩ (.int .i64 x3)).setCell ⟨q8, 5, none⟩ (.int .i64 x4)) q8 (refCl kd ((0 : Nat) : Int) [x0, x1, x2, x3, x4]) none 0 by rw [HRF.out]; exact s4)
                  have HKE := Lib.hid (show Kp q8 w9 (((((w5.setCell ⟨q8, 1, none⟩ (.int .i64 x0)).setCell ⟨q8, 2, none⟩ (.int .i64 x1)).setCell ⟨q8, 3, none⟩ (.int .i64 x2)).setCell ⟨q8, 4, none⟩ (.int .i64 x3)).setCell ⟨q8, 5, none⟩ (.int .i64 x4)) from (Kp.set (Kp.set (Kp.set (Kp.set (Kp.set HK.out 1 (.int .i64 x0)) 2 (.int .i64 x1)) 3 (.int .i64 x2)) 4 (.int .i64 x3)) 5 (.int .i64 x4)))
                  have HAP := Lib.hid (show ∀ wx, IntApart wx none (refCl kd ((0 : Nat) : Int) [x0, x1, x2, x3, x4]).reqs w.heap.size w.heap.size from fun wx => by
                    rw [HRF.out]
                    exact ⟨fun k hk => absurd hk (by simp), fun a ha => by cases ha⟩)
                  clear s0 s1 s2 s3 s4
                  go_upto_region 30 with fail
                  go_region
                  go_wp2_with fail
                  go_meet
                  case rel => exact ⟨none, 0, (by first | exact HR | exact Lib.hid (HR.out.below (Below.refl _ _).drew)), HAP.out _, (by first | exact HKE | exact Lib.hid (HKE.out.later HQK.out (Below.refl _ _).drew))⟩
                · have hkb5 : ((k : Int) == 5) = false := by simp; omega
                  have HNO := Lib.hid (show ∀ d, ¬ CanonS s.data.toList d from fun d hd => by
                    have h := HNUM.out d hd
                    rw [HLO.out] at h
                    omega)
                  have HZ := Lib.hid (HZW.out w5 HK.out)
                  have HF := Lib.hid (HFW.out w5 HK.out)
                  have HB := Lib.hid (HBW.out w5 HK.out)
                  have f0 := HF.out.fz 0
                  have f1 := HF.out.fz 1
                  have f2 := HF.out.fz 2
                  have f3 := HF.out.fz 3
                  have f4 := HF.out.fz 4
                  have f5 := HF.out.fz 5
                  have f6 := HF.out.fz 6
                  have f7 := HF.out.fz 7
                  have f8 := HF.out.fz 8
                  have f9 := HF.out.fz 9
                  have fA := HF.out.fz 10
                  have rl := HF.out.lt
                  have r0 := HF.out.at.g0
                  have r1 := HF.out.at.g1
                  have r2 := HF.out.at.g2
                  have r3 := HF.out.at.g3
                  have r4 := HF.out.at.g4
                  have r5 := HF.out.at.g5
                  have r6 := HF.out.at.g6
                  have r7 := HF.out.at.g7
                  have r8 := HF.out.at.g8
                  have r9 := HF.out.at.g9
                  have rA := HF.out.at.gA
                  have o0 : w5.cell? ⟨q4, 0, none⟩ = some (.int .u8 0) := HZ.out.at.g0
                  have o1 : w5.cell? ⟨q4, 1, none⟩ = some (.int .i64 0) := HZ.out.at.g1
                  have o2 : w5.cell? ⟨q4, 2, none⟩ = some (.int .i64 0) := HZ.out.at.g2
                  have o3 : w5.cell? ⟨q4, 3, none⟩ = some (.int .i64 0) := HZ.out.at.g3
                  have o4 : w5.cell? ⟨q4, 4, none⟩ = some (.int .i64 0) := HZ.out.at.g4
                  have o5 : w5.cell? ⟨q4, 5, none⟩ = some (.int .i64 0) := HZ.out.at.g5
                  have o6 : w5.cell? ⟨q4, 6, none⟩ = some (.int .i64 0) := HZ.out.at.g6
                  have o7 : w5.cell? ⟨q4, 7, none⟩ = some (.int .u8 0) := HZ.out.at.g7
                  have o8 : w5.cell? ⟨q4, 8, none⟩ = some (.slice none 0 0) := HZ.out.at.g8
                  have o9 : w5.cell? ⟨q4, 9, none⟩ = some (.int .i64 0) := HZ.out.at.g9
                  have oA : w5.cell? ⟨q4, 10, none⟩ = some (.int .i64 0) := HZ.out.at.gA
                  go_wp2_with fail
                  have hZ : CBlk (((((((((((w5.setCell ⟨w.heap.size, 0, none⟩ (.int .u8 0)).setCell ⟨w.heap.size, 1, none⟩ (.int .i64 0)).setCell ⟨w.heap.size, 2, none⟩ (.int .i64 0)).setCell ⟨w.heap.size, 3, none⟩ (.int .i64 0)).setCell ⟨w.heap.size, 4, none⟩ (.int .i64 0)).setCell ⟨w.heap.size, 5, none⟩ (.int .i64 0)).setCell ⟨w.heap.size, 6, none⟩ (.int .i64 0)).setCell ⟨w.heap.size, 7, none⟩ (.int .u8 0)).setCell ⟨w.heap.size, 8, none⟩ (.slice none 0 0)).setCell ⟨w.heap.size, 9, none⟩ (.int .i64 0)).setCell ⟨w.heap.size, 10, none⟩ (.int .i64 0)) w.heap.size #[.int .u8 0, .int .i64 0, .int .i64 0, .int .i64 0, .int .i64 0, .int .i64 0, .int .i64 0, .int .u8 0, .slice none 0 0, .int .i64 0, .int .i64 0] := fill_blk HF.out rfl (.int .u8 0) (.int .i64 0) (.int .i64 0) (.int .i64 0) (.int .i64 0) (.int .i64 0) (.int .i64 0) (.int .u8 0) (.slice none 0 0) (.int .i64 0) (.int .i64 0)
                  have x0 := hZ.cell 0 (.int .u8 0) rfl
                  have x1 := hZ.cell 1 (.int .i64 0) rfl
                  have x2 := hZ.cell 2 (.int .i64 0) rfl
                  have x3 := hZ.cell 3 (.int .i64 0) rfl
                  have x4 := hZ.cell 4 (.int .i64 0) rfl
                  have x5 := hZ.cell 5 (.int .i64 0) rfl
                  have x6 := hZ.cell 6 (.int .i64 0) rfl
                  have x7 := hZ.cell 7 (.int .u8 0) rfl
                  have x8 := hZ.cell 8 (.slice none 0 0) rfl
                  have x9 := hZ.cell 9 (.int .i64 0) rfl
                  have xA := hZ.cell 10 (.int .i64 0) rfl
                  refine bodyPost_ret (v := .tuple #[.agg #[.int .u8 0, .int .i64 0, .int .i64 0, .int .i64 0, .int .i64 0, .int .i64 0, .int .i64 0, .int .u8 0, .slice none 0 0, .int .i64 0, .int .i64 0], .int .i64 160]) (by simp [results, Tryd.results10, go_sem, x0, x1, x2, x3, x4, x5, x6, x7, x8, x9, xA]) rfl ?_
                  exact ⟨zeroCl, none, 0, 160, rfl, fun k hk => absurd hk (by simp [zeroCl]), fill_below HB.out (Nat.le_refl _) (.int .u8 0) (.int .i64 0) (.int .i64 0) (.int .i64 0) (.int .i64 0) (.int .i64 0) (.int .i64 0) (.int .u8 0) (.slice none 0 0) (.int .i64 0) (.int .i64 0), .inr ⟨rfl, rfl, parse_end_none HNO.out⟩⟩
              · have HSU := Lib.hid (show US = ⟨#[99, 112, 116]⟩ by rw [← HUS.out]; rcases k1 with rfl | rfl | rfl | rfl <;> rfl)
                have HLO := Lib.hid (show argsLo kd = 3 by rcases k1 with rfl | rfl | rfl | rfl <;> rfl)
                have hop1 : op = 0 := hop0 (by rw [← HRE.out]; rcases k1 with rfl | rfl | rfl | rfl <;> rfl)
                subst hop1
                have HRF := Lib.hid (show ∀ x0 x1 x2, refCl kd ((0 : Nat) : Int) [x0, x1, x2] = ⟨kd, x0, x1, x2, 0, 0, 0, 0, [], 0, 0⟩ from fun x0 x1 x2 => by
                  unfold refCl
                  rcases k1 with rfl | rfl | rfl | rfl <;> rfl)
                have HC5 := Lib.hid (show CBlk w5 q8 #[.int .u8 kd, .int .i64 0, .int .i64 0, .int .i64 0, .int .i64 0, .int .i64 0, .int .i64 0, .int .u8 (0 : Int), .slice none 0 0, .int .i64 0, .int .i64 0] from HC.out)
                clear k1 hop0 HC HUS
                have hus := HSU.out
                subst hus
                clear HSU
                have har := HAR.out
                rw [HLO.out] at har
                have HAR2 := Lib.hid har
                clear har HAR
                go_upto_region 24 with fail
                go_wp2_with fail
                refine HAR2.out.mono ?_
                rintro e w5 ⟨rfl, rfl⟩
                clear HAR2
                by_cases hkl : k = 3
                · subst hkl
                  obtain ⟨x0, x1, x2, rfl⟩ : ∃ x0 x1 x2, L = [x0, x1, x2] := by
                    have h := HL.out
                    match L, h with
                    | [x0, x1, x2], _ => exact ⟨x0, x1, x2, rfl⟩
                  obtain ⟨bL, oL, hBL, hbl, d0⟩ := HLR.out w5 (Kp.refl _ _) 0 (by simp)
                  obtain ⟨b9, o9, hB9, _, d1⟩ := HLR.out w5 (Kp.refl _ _) 1 (by simp)
                  rw [hBL] at hB9
                  cases hB9
                  obtain ⟨b9, o9, hB9, _, d2⟩ := HLR.out w5 (Kp.refl _ _) 2 (by simp)
                  rw [hBL] at hB9
                  cases hB9
                  have hbq : bL ≠ q8 := by
                    have h := HBLQ.out _ hBL
                    exact fun e => by rw [e] at h; exact absurd h (Nat.lt_irrefl _)
                  have hbq2 : q8 ≠ bL := fun e => hbq e.symm
                  subst hBL
                  simp only [List.getElem_cons_zero, List.getElem_cons_succ, Nat.add_zero] at d0 d1 d2
                  have f1 := HC5.out.fz 1
                  have p1 := HC5.out.cell 1 _ rfl
                  have f2 := HC5.out.fz 2
                  have p2 := HC5.out.cell 2 _ rfl
                  have f3 := HC5.out.fz 3
                  have p3 := HC5.out.cell 3 _ rfl
                  have l5 := HC5.out.lt
                  have s0 : CBlk (w5.setCell ⟨q8, 1, none⟩ (.int .i64 x0)) q8 #[.int .u8 kd, .int .i64 x0, .int .i64 0, .int .i64 0, .int .i64 0, .int .i64 0, .int .i64 0, .int .u8 (0 : Int), .slice none 0 0, .int .i64 0, .int .i64 0] := CBlk.set HC5.out 1 (.int .i64 x0)
                  have s1 : CBlk ((w5.setCell ⟨q8, 1, none⟩ (.int .i64 x0)).setCell ⟨q8, 2, none⟩ (.int .i64 x1)) q8 #[.int .u8 kd, .int .i64 x0, .int .i64 x1, .int .i64 0, .int .i64 0, .int .i64 0, .int .i64 0, .int .u8 (0 : Int), .slice none 0 0, .int .i64 0, .int .i64 0] := CBlk.set s0 2 (.int .i64 x1)
                  have s2 : CBlk (((w5.setCell ⟨q8, 1, none⟩ (.int .i64 x0)).setCell ⟨q8, 2, none⟩ (.int .i64 x1)).setCell ⟨q8, 3, none⟩ (.int .i64 x2)) q8 #[.int .u8 kd, .int .i64 x0, .int .i64 x1, .int .i64 x2, .int .i64 0, .int .i64 0, .int .i64 0, .int .u8 (0 : Int), .slice none 0 0, .int .i64 0, .int .i64 0] := CBlk.set s1 3 (.int .i64 x2)
                  have HR := Lib.hid (show ClBlk (((w5.setCell ⟨q8, 1, none⟩ (.int .i64 x0)).setCell ⟨q8, 2, none⟩ (.int .i64 x1)).setCell ⟨q8, 3, none⟩ (.int .i64 x2)) q8 (refCl kd ((0 : Nat) : Int) [x0, x1, x2]) none 0 by rw [HRF.out]; exact s2)
                  have HKE := Lib.hid (show Kp q8 w9 (((w5.setCell ⟨q8, 1, none⟩ (.int .i64 x0)).setCell ⟨q8, 2, none⟩ (.int .i64 x1)).setCell ⟨q8, 3, none⟩ (.int .i64 x2)) from (Kp.set (Kp.set (Kp.set HK.out 1 (.int .i64 x0)) 2 (.int .i64 x1)) 3 (.int .i64 x2)))
                  have HAP := Lib.hid (show ∀ wx, IntApart wx none (refCl kd ((0 : Nat) : Int) [x0, x1, x2]).reqs w.heap.size w.heap.size from fun wx => by
                    rw [HRF.out]
                    exact ⟨fun k hk => absurd hk (by simp), fun a ha => by cases ha⟩)
                  clear s0 s1 s2
                  go_upto_region 34 with fail
                  go_region
                  go_wp2_with fail
                  go_meet
                  case rel => exact ⟨none, 0, (by first | exact HR | exact Lib.hid (HR.out.below (Below.refl _ _).drew)), HAP.out _, (by first | exact HKE | exact Lib.hid (HKE.out.later HQK.out (Below.refl _ _).drew))⟩
                · have hkb5 : ((k : Int) == 3) = false := by simp; omega
                  have HNO := Lib.hid (show ∀ d, ¬ CanonS s.data.toList d from fun d hd => by
                    have h := HNUM.out d hd
                    rw [HLO.out] at h
                    omega)
                  have HZ := Lib.hid (HZW.out w5 HK.out)
                  have HF := Lib.hid (HFW.out w5 HK.out)
                  have HB := Lib.hid (HBW.out w5 HK.out)
                  have f0 := HF.out.fz 0
                  have f1 := HF.out.fz 1
                  have f2 := HF.out.fz 2
                  have f3 := HF.out.fz 3
                  have f4 := HF.out.fz 4
                  have f5 := HF.out.fz 5
                  have f6 := HF.out.fz 6
                  have f7 := HF.out.fz 7
                  have f8 := HF.out.fz 8
                  have f9 := HF.out.fz 9
                  have fA := HF.out.fz 10
                  have rl := HF.out.lt
                  have r0 := HF.out.at.g0
                  have r1 := HF.out.at.g1
                  have r2 := HF.out.at.g2
                  have r3 := HF.out.at.g3
                  have r4 := HF.out.at.g4
                  have r5 := HF.out.at.g5
                  have r6 := HF.out.at.g6
                  have r7 := HF.out.at.g7
                  have r8 := HF.out.at.g8
                  have r9 := HF.out.at.g9
                  have rA := HF.out.at.gA
                  have o0 : w5.cell? ⟨q4, 0, none⟩ = some (.int .u8 0) := HZ.out.at.g0
                  have o1 : w5.cell? ⟨q4, 1, none⟩ = some (.int .i64 0) := HZ.out.at.g1
                  have o2 : w5.cell? ⟨q4, 2, none⟩ = some (.int .i64 0) := HZ.out.at.g2
                  have o3 : w5.cell? ⟨q4, 3, none⟩ = some (.int .i64 0) := HZ.out.at.g3
                  have o4 : w5.cell? ⟨q4, 4, none⟩ = some (.int .i64 0) := HZ.out.at.g4
                  have o5 : w5.cell? ⟨q4, 5, none⟩ = some (.int .i64 0) := HZ.out.at.g5
                  have o6 : w5.cell? ⟨q4, 6, none⟩ = some (.int .i64 0) := HZ.out.at.g6
                  have o7 : w5.cell? ⟨q4, 7, none⟩ = some (.int .u8 0) := HZ.out.at.g7
                  have o8 : w5.cell? ⟨q4, 8, none⟩ = some (.slice none 0 0) := HZ.out.at.g8
                  have o9 : w5.cell? ⟨q4, 9, none⟩ = some (.int .i64 0) := HZ.out.at.g9
                  have oA : w5.cell? ⟨q4, 10, none⟩ = some (.int .i64 0) := HZ.out.at.gA
                  go_wp2_with fail
                  have hZ : CBlk (((((((((((w5.setCell ⟨w.heap.size, 0, none⟩ (.int .u8 0)).setCell ⟨w.heap.size, 1, none⟩ (.int .i64 0)).setCell ⟨w.heap.size, 2, none⟩ (.int .i64 0)).setCell ⟨w.heap.size, 3, none⟩ (.int .i64 0)).setCell ⟨w.heap.size, 4, none⟩ (.int .i64 0)).setCell ⟨w.heap.size, 5, none⟩ (.int .i64 0)).setCell ⟨w.heap.size, 6, none⟩ (.int .i64 0)).setCell ⟨w.heap.size, 7, none⟩ (.int .u8 0)).setCell ⟨w.heap.size, 8, none⟩ (.slice none 0 0)).setCell ⟨w.heap.size, 9, none⟩ (.int .i64 0)).setCell ⟨w.heap.size, 10, none⟩ (.int .i64 0)) w.heap.size #[.int .u8 0, .int .i64 0, .int .i64 0, .int .i64 0, .int .i64 0, .int .i64 0, .int .i64 0, .int .u8 0, .slice none 0 0, .int .i64 0, .int .i64 0] := fill_blk HF.out rfl (.int .u8 0) (.int .i64 0) (.int .i64 0) (.int .i64 0) (.int .i64 0) (.int .i64 0) (.int .i64 0) (.int .u8 0) (.slice none 0 0) (.int .i64 0) (.int .i64 0)
                  have x0 := hZ.cell 0 (.int .u8 0) rfl
                  have x1 := hZ.cell 1 (.int .i64 0) rfl
                  have x2 := hZ.cell 2 (.int .i64 0) rfl
                  have x3 := hZ.cell 3 (.int .i64 0) rfl
                  have x4 := hZ.cell 4 (.int .i64 0) rfl
                  have x5 := hZ.cell 5 (.int .i64 0) rfl
                  have x6 := hZ.cell 6 (.int .i64 0) rfl
                  have x7 := hZ.cell 7 (.int .u8 0) rfl
                  have x8 := hZ.cell 8 (.slice none 0 0) rfl
                  have x9 := hZ.cell 9 (.int .i64 0) rfl
                  have xA := hZ.cell 10 (.int .i64 0) rfl
                  refine bodyPost_ret (v := .tuple #[.agg #[.int .u8 0, .int .i64 0, .int .i64 0, .int .i64 0, .int .i64 0, .int .i64 0, .int .i64 0, .int .u8 0, .slice none 0 0, .int .i64 0, .int .i64 0], .int .i64 160]) (by simp [results, Tryd.results10, go_sem, x0, x1, x2, x3, x4, x5, x6, x7, x8, x9, xA]) rfl ?_
                  exact ⟨zeroCl, none, 0, 160, rfl, fun k hk => absurd hk (by simp [zeroCl]), fill_below HB.out (Nat.le_refl _) (.int .u8 0) (.int .i64 0) (.int .i64 0) (.int .i64 0) (.int .i64 0) (.int .i64 0) (.int .i64 0) (.int .u8 0) (.slice none 0 0) (.int .i64 0) (.int .i64 0), .inr ⟨rfl, rfl, parse_end_none HNO.out⟩⟩
              · have HSU := Lib.hid (show US = ⟨#[99]⟩ by rw [← HUS.out]; rcases k1 with rfl | rfl | rfl <;> rfl)
                have HLO := Lib.hid (show argsLo kd = 1 by rcases k1 with rfl | rfl | rfl <;> rfl)
                have hop1 : op = 0 := hop0 (by rw [← HRE.out]; rcases k1 with rfl | rfl | rfl <;> rfl)
                subst hop1
                have HRF := Lib.hid (show ∀ x0, refCl kd ((0 : Nat) : Int) [x0] = ⟨kd, x0, 0, 0, 0, 0, 0, 0, [], 0, 0⟩ from fun x0 => by
                  unfold refCl
                  rcases k1 with rfl | rfl | rfl <;> rfl)
                have HC5 := Lib.hid (show CBlk w5 q8 #[.int .u8 kd, .int .i64 0, .int .i64 0, .int .i64 0, .int .i64 0, .int .i64 0, .int .i64 0, .int .u8 (0 : Int), .slice none 0 0, .int .i64 0, .int .i64 0] from HC.out)
                clear k1 hop0 HC HUS
                have hus := HSU.out
                subst hus
                clear HSU
                have har := HAR.out
                rw [HLO.out] at har
                have HAR2 := Lib.hid har
                clear har HAR
                go_upto_region 24 with fail
                go_wp2_with fail
                refine HAR2.out.mono ?_
                rintro e w5 ⟨rfl, rfl⟩
                clear HAR2
                by_cases hkl : k = 1
                · subst hkl
                  obtain ⟨x0, rfl⟩ : ∃ x0, L = [x0] := by
                    have h := HL.out
                    match L, h with
                    | [x0], _ => exact ⟨x0, rfl⟩
                  obtain ⟨bL, oL, hBL, hbl, d0⟩ := HLR.out w5 (Kp.refl _ _) 0 (by simp)
                  have hbq : bL ≠ q8 := by
                    have h := HBLQ.out _ hBL
                    exact fun e => by rw [e] at h; exact absurd h (Nat.lt_irrefl _)
                  have hbq2 : q8 ≠ bL := fun e => hbq e.symm
                  subst hBL
                  simp only [List.getElem_cons_zero, List.getElem_cons_succ, Nat.add_zero] at d0
                  have f1 := HC5.out.fz 1
                  have p1 := HC5.out.cell 1 _ rfl
                  have l5 := HC5.out.lt
                  have s0 : CBlk (w5.setCell ⟨q8, 1, none⟩ (.int .i64 x0)) q8 #[.int .u8 kd, .int .i64 x0, .int .i64 0, .int .i64 0, .int .i64 0, .int .i64 0, .int .i64 0, .int .u8 (0 : Int), .slice none 0 0, .int .i64 0, .int .i64 0] := CBlk.set HC5.out 1 (.int .i64 x0)
                  have HR := Lib.hid (show ClBlk (w5.setCell ⟨q8, 1, none⟩ (.int .i64 x0)) q8 (refCl kd ((0 : Nat) : Int) [x0]) none 0 by rw [HRF.out]; exact s0)
                  have HKE := Lib.hid (show Kp q8 w9 (w5.setCell ⟨q8, 1, none⟩ (.int .i64 x0)) from (Kp.set HK.out 1 (.int .i64 x0)))
                  have HAP := Lib.hid (show ∀ wx, IntApart wx none (refCl kd ((0 : Nat) : Int) [x0]).reqs w.heap.size w.heap.size from fun wx => by
                    rw [HRF.out]
                    exact ⟨fun k hk => absurd hk (by simp), fun a ha => by cases ha⟩)
                  clear s0
                  go_wp2_with fail
                  go_meet
                  case rel => exact ⟨none, 0, (by first | exact HR | exact Lib.hid (HR.out.below (Below.refl _ _).drew)), HAP.out _, (by first | exact HKE | exact Lib.hid (HKE.out.later HQK.out (Below.refl _ _).drew))⟩
                · have hkb5 : ((k : Int) == 1) = false := by simp; omega
                  have HNO := Lib.hid (show ∀ d, ¬ CanonS s.data.toList d from fun d hd => by
                    have h := HNUM.out d hd
                    rw [HLO.out] at h
                    omega)
                  have HZ := Lib.hid (HZW.out w5 HK.out)
                  have HF := Lib.hid (HFW.out w5 HK.out)
                  have HB := Lib.hid (HBW.out w5 HK.out)
                  have f0 := HF.out.fz 0
                  have f1 := HF.out.fz 1
                  have f2 := HF.out.fz 2
                  have f3 := HF.out.fz 3
                  have f4 := HF.out.fz 4
                  have f5 := HF.out.fz 5
                  have f6 := HF.out.fz 6
                  have f7 := HF.out.fz 7
                  have f8 := HF.out.fz 8
                  have f9 := HF.out.fz 9
                  have fA := HF.out.fz 10
                  have rl := HF.out.lt
                  have r0 := HF.out.at.g0
                  have r1 := HF.out.at.g1
                  have r2 := HF.out.at.g2
                  have r3 := HF.out.at.g3
                  have r4 := HF.out.at.g4
                  have r5 := HF.out.at.g5
                  have r6 := HF.out.at.g6
                  have r7 := HF.out.at.g7
                  have r8 := HF.out.at.g8
                  have r9 := HF.out.at.g9
                  have rA := HF.out.at.gA
                  have o0 : w5.cell? ⟨q4, 0, none⟩ = some (.int .u8 0) := HZ.out.at.g0
                  have o1 : w5.cell? ⟨q4, 1, none⟩ = some (.int .i64 0) := HZ.out.at.g1
                  have o2 : w5.cell? ⟨q4, 2, none⟩ = some (.int .i64 0) := HZ.out.at.g2
                  have o3 : w5.cell? ⟨q4, 3, none⟩ = some (.int .i64 0) := HZ.out.at.g3
                  have o4 : w5.cell? ⟨q4, 4, none⟩ = some (.int .i64 0) := HZ.out.at.g4
                  have o5 : w5.cell? ⟨q4, 5, none⟩ = some (.int .i64 0) := HZ.out.at.g5
                  have o6 : w5.cell? ⟨q4, 6, none⟩ = some (.int .i64 0) := HZ.out.at.g6
                  have o7 : w5.cell? ⟨q4, 7, none⟩ = some (.int .u8 0) := HZ.out.at.g7
                  have o8 : w5.cell? ⟨q4, 8, none⟩ = some (.slice none 0 0) := HZ.out.at.g8
                  have o9 : w5.cell? ⟨q4, 9, none⟩ = some (.int .i64 0) := HZ.out.at.g9
                  have oA : w5.cell? ⟨q4, 10, none⟩ = some (.int .i64 0) := HZ.out.at.gA
                  go_wp2_with fail
                  have hZ : CBlk (((((((((((w5.setCell ⟨w.heap.size, 0, none⟩ (.int .u8 0)).setCell ⟨w.heap.size, 1, none⟩ (.int .i64 0)).setCell ⟨w.heap.size, 2, none⟩ (.int .i64 0)).setCell ⟨w.heap.size, 3, none⟩ (.int .i64 0)).setCell ⟨w.heap.size, 4, none⟩ (.int .i64 0)).setCell ⟨w.heap.size, 5, none⟩ (.int .i64 0)).setCell ⟨w.heap.size, 6, none⟩ (.int .i64 0)).setCell ⟨w.heap.size, 7, none⟩ (.int .u8 0)).setCell ⟨w.heap.size, 8, none⟩ (.slice none 0 0)).setCell ⟨w.heap.size, 9, none⟩ (.int .i64 0)).setCell ⟨w.heap.size, 10, none⟩ (.int .i64 0)) w.heap.size #[.int .u8 0, .int .i64 0, .int .i64 0, .int .i64 0, .int .i64 0, .int .i64 0, .int .i64 0, .int .u8 0, .slice none 0 0, .int .i64 0, .int .i64 0] := fill_blk HF.out rfl (.int .u8 0) (.int .i64 0) (.int .i64 0) (.int .i64 0) (.int .i64 0) (.int .i64 0) (.int .i64 0) (.int .u8 0) (.slice none 0 0) (.int .i64 0) (.int .i64 0)
                  have x0 := hZ.cell 0 (.int .u8 0) rfl
                  have x1 := hZ.cell 1 (.int .i64 0) rfl
                  have x2 := hZ.cell 2 (.int .i64 0) rfl
                  have x3 := hZ.cell 3 (.int .i64 0) rfl
                  have x4 := hZ.cell 4 (.int .i64 0) rfl
                  have x5 := hZ.cell 5 (.int .i64 0) rfl
                  have x6 := hZ.cell 6 (.int .i64 0) rfl
                  have x7 := hZ.cell 7 (.int .u8 0) rfl
                  have x8 := hZ.cell 8 (.slice none 0 0) rfl
                  have x9 := hZ.cell 9 (.int .i64 0) rfl
                  have xA := hZ.cell 10 (.int .i64 0) rfl
                  refine bodyPost_ret (v := .tuple #[.agg #[.int .u8 0, .int .i64 0, .int .i64 0, .int .i64 0, .int .i64 0, .int .i64 0, .int .i64 0, .int .u8 0, .slice none 0 0, .int .i64 0, .int .i64 0], .int .i64 160]) (by simp [results, Tryd.results10, go_sem, x0, x1, x2, x3, x4, x5, x6, x7, x8, x9, xA]) rfl ?_
                  exact ⟨zeroCl, none, 0, 160, rfl, fun k hk => absurd hk (by simp [zeroCl]), fill_below HB.out (Nat.le_refl _) (.int .u8 0) (.int .i64 0) (.int .i64 0) (.int .i64 0) (.int .i64 0) (.int .i64 0) (.int .i64 0) (.int .u8 0) (.slice none 0 0) (.int .i64 0) (.int .i64 0), .inr ⟨rfl, rfl, parse_end_none HNO.out⟩⟩
              · have HSU := Lib.hid (show US = ⟨#[99, 114, 118]⟩ by rw [← HUS.out]; rcases k1 with rfl | rfl <;> rfl)
                have HLO := Lib.hid (show argsLo kd = 3 by rcases k1 with rfl | rfl <;> rfl)
                have hop1 : op = 0 := hop0 (by rw [← HRE.out]; rcases k1 with rfl | rfl <;> rfl)
                subst hop1
                have HRF := Lib.hid (show ∀ x0 x1 x2, refCl kd ((0 : Nat) : Int) [x0, x1, x2] = ⟨kd, x0, 0, 0, x2, 0, x1, 0, [], 0, 0⟩ from fun x0 x1 x2 => by
                  unfold refCl
                  rcases k1 with rfl | rfl <;> rfl)
                have HC5 := Lib.hid (show CBlk w5 q8 #[.int .u8 kd, .int .i64 0, .int .i64 0, .int .i64 0, .int .i64 0, .int .i64 0, .int .i64 0, .int .u8 (0 : Int), .slice none 0 0, .int .i64 0, .int .i64 0] from HC.out)
                clear k1 hop0 HC HUS
                have hus := HSU.out
                subst hus
                clear HSU
                have har := HAR.out
                rw [HLO.out] at har
                have HAR2 := Lib.hid har
                clear har HAR
                go_upto_region 24 with fail
                go_wp2_with fail
                refine HAR2.out.mono ?_
                rintro e w5 ⟨rfl, rfl⟩
                clear HAR2
                by_cases hkl : k = 3
                · subst hkl
                  obtain ⟨x0, x1, x2, rfl⟩ : ∃ x0 x1 x2, L = [x0, x1, x2] := by
                    have h := HL.out
                    match L, h with
                    | [x0, x1, x2], _ => exact ⟨x0, x1, x2, rfl⟩
                  obtain ⟨bL, oL, hBL, hbl, d0⟩ := HLR.out w5 (Kp.refl _ _) 0 (by simp)
                  obtain ⟨b9, o9, hB9, _, d1⟩ := HLR.out w5 (Kp.refl _ _) 1 (by simp)
                  rw [hBL] at hB9
                  cases hB9
                  obtain ⟨b9, o9, hB9, _, d2⟩ := HLR.out w5 (Kp.refl _ _) 2 (by simp)
                  rw [hBL] at hB9
                  cases hB9
                  have hbq : bL ≠ q8 := by
                    have h := HBLQ.out _ hBL
                    exact fun e => by rw [e] at h; exact absurd h (Nat.lt_irrefl _)
                  have hbq2 : q8 ≠ bL := fun e => hbq e.symm
                  subst hBL
                  simp only [List.getElem_cons_zero, List.getElem_cons_succ, Nat.add_zero] at d0 d1 d2
                  have f1 := HC5.out.fz 1
                  have p1 := HC5.out.cell 1 _ rfl
                  have f6 := HC5.out.fz 6
                  have p6 := HC5.out.cell 6 _ rfl
                  have f4 := HC5.out.fz 4
                  have p4 := HC5.out.cell 4 _ rfl
                  have l5 := HC5.out.lt
                  have s0 : CBlk (w5.setCell ⟨q8, 1, none⟩ (.int .i64 x0)) q8 #[.int .u8 kd, .int .i64 x0, .int .i64 0, .int .i64 0, .int .i64 0, .int .i64 0, .int .i64 0, .int .u8 (0 : Int), .slice none 0 0, .int .i64 0, .int .i64 0] := CBlk.set HC5.out 1 (.int .i64 x0)
                  have s1 : CBlk ((w5.setCell ⟨q8, 1, none⟩ (.int .i64 x0)).setCell ⟨q8, 6, none⟩ (.int .i64 x1)) q8 #[.int .u8 kd, .int .i64 x0, .int .i64 0, .int .i64 0, .int .i64 0, .int .i64 0, .int .i64 x1, .int .u8 (0 : Int), .slice none 0 0, .int .i64 0, .int .i64 0] := CBlk.set s0 6 (.int .i64 x1)
                  have s2 : CBlk (((w5.setCell ⟨q8, 1, none⟩ (.int .i64 x0)).setCell ⟨q8, 6, none⟩ (.int .i64 x1)).setCell ⟨q8, 4, none⟩ (.int .i64 x2)) q8 #[.int .u8 kd, .int .i64 x0, .int .i64 0, .int .i64 0, .int .i64 x2, .int .i64 0, .int .i64 x1, .int .u8 (0 : Int), .slice none 0 0, .int .i64 0, .int .i64 0] := CBlk.set s1 4 (.int .i64 x2)
                  have HR := Lib.hid (show ClBlk (((w5.setCell ⟨q8, 1, none⟩ (.int .i64 x0)).setCell ⟨q8, 6, none⟩ (.int .i64 x1)).setCell ⟨q8, 4, none⟩ (.int .i64 x2)) q8 (refCl kd ((0 : Nat) : Int) [x0, x1, x2]) none 0 by rw [HRF.out]; exact s2)
                  have HKE := Lib.hid (show Kp q8 w9 (((w5.setCell ⟨q8, 1, none⟩ (.int .i64 x0)).setCell ⟨q8, 6, none⟩ (.int .i64 x1)).setCell ⟨q8, 4, none⟩ (.int .i64 x2)) from (Kp.set (Kp.set (Kp.set HK.out 1 (.int .i64 x0)) 6 (.int .i64 x1)) 4 (.int .i64 x2)))
                  have HAP := Lib.hid (show ∀ wx, IntApart wx none (refCl kd ((0 : Nat) : Int) [x0, x1, x2]).reqs w.heap.size w.heap.size from fun wx => by
                    rw [HRF.out]
                    exact ⟨fun k hk => absurd hk (by simp), fun a ha => by cases ha⟩)
                  clear s0 s1 s2
                  go_wp2_with fail
                  go_meet
                  case rel => exact ⟨none, 0, (by first | exact HR | exact Lib.hid (HR.out.below (Below.refl _ _).drew)), HAP.out _, (by first | exact HKE | exact Lib.hid (HKE.out.later HQK.out (Below.refl _ _).drew))⟩
                · have hkb5 : ((k : Int) == 3) = false := by simp; omega
                  have HNO := Lib.hid (show ∀ d, ¬ CanonS s.data.toList d from fun d hd => by
                    have h := HNUM.out d hd
                    rw [HLO.out] at h
                    omega)
                  have HZ := Lib.hid (HZW.out w5 HK.out)
                  have HF := Lib.hid (HFW.out w5 HK.out)
                  have HB := Lib.hid (HBW.out w5 HK.out)
                  have f0 := HF.out.fz 0
                  have f1 := HF.out.fz 1
                  have f2 := HF.out.fz 2
                  have f3 := HF.out.fz 3
                  have f4 := HF.out.fz 4
                  have f5 := HF.out.fz 5
                  have f6 := HF.out.fz 6
                  have f7 := HF.out.fz 7
                  have f8 := HF.out.fz 8
                  have f9 := HF.out.fz 9
                  have fA := HF.out.fz 10
                  have rl := HF.out.lt
                  have r0 := HF.out.at.g0
                  have r1 := HF.out.at.g1
                  have r2 := HF.out.at.g2
                  have r3 := HF.out.at.g3
                  have r4 := HF.out.at.g4
                  have r5 := HF.out.at.g5
                  have r6 := HF.out.at.g6
                  have r7 := HF.out.at.g7
                  have r8 := HF.out.at.g8
                  have r9 := HF.out.at.g9
                  have rA := HF.out.at.gA
                  have o0 : w5.cell? ⟨q4, 0, none⟩ = some (.int .u8 0) := HZ.out.at.g0
                  have o1 : w5.cell? ⟨q4, 1, none⟩ = some (.int .i64 0) := HZ.out.at.g1
                  have o2 : w5.cell? ⟨q4, 2, none⟩ = some (.int .i64 0) := HZ.out.at.g2
                  have o3 : w5.cell? ⟨q4, 3, none⟩ = some (.int .i64 0) := HZ.out.at.g3
                  have o4 : w5.cell? ⟨q4, 4, none⟩ = some (.int .i64 0) := HZ.out.at.g4
                  have o5 : w5.cell? ⟨q4, 5, none⟩ = some (.int .i64 0) := HZ.out.at.g5
                  have o6 : w5.cell? ⟨q4, 6, none⟩ = some (.int .i64 0) := HZ.out.at.g6
                  have o7 : w5.cell? ⟨q4, 7, none⟩ = some (.int .u8 0) := HZ.out.at.g7
                  have o8 : w5.cell? ⟨q4, 8, none⟩ = some (.slice none 0 0) := HZ.out.at.g8
                  have o9 : w5.cell? ⟨q4, 9, none⟩ = some (.int .i64 0) := HZ.out.at.g9
                  have oA : w5.cell? ⟨q4, 10, none⟩ = some (.int .i64 0) := HZ.out.at.gA
                  go_wp2_with fail
                  have hZ : CBlk (((((((((((w5.setCell ⟨w.heap.size, 0, none⟩ (.int .u8 0)).setCell ⟨w.heap.size, 1, none⟩ (.int .i64 0)).setCell ⟨w.heap.size, 2, none⟩ (.int .i64 0)).setCell ⟨w.heap.size, 3, none⟩ (.int .i64 0)).setCell ⟨w.heap.size, 4, none⟩ (.int .i64 0)).setCell ⟨w.heap.size, 5, none⟩ (.int .i64 0)).setCell ⟨w.heap.size, 6, none⟩ (.int .i64 0)).setCell ⟨w.heap.size, 7, none⟩ (.int .u8 0)).setCell ⟨w.heap.size, 8, none⟩ (.slice none 0 0)).setCell ⟨w.heap.size, 9, none⟩ (.int .i64 0)).setCell ⟨w.heap.size, 10, none⟩ (.int .i64 0)) w.heap.size #[.int .u8 0, .int .i64 0, .int .i64 0, .int .i64 0, .int .i64 0, .int .i64 0, .int .i64 0, .int .u8 0, .slice none 0 0, .int .i64 0, .int .i64 0] := fill_blk HF.out rfl (.int .u8 0) (.int .i64 0) (.int .i64 0) (.int .i64 0) (.int .i64 0) (.int .i64 0) (.int .i64 0) (.int .u8 0) (.slice none 0 0) (.int .i64 0) (.int .i64 0)
                  have x0 := hZ.cell 0 (.int .u8 0) rfl
                  have x1 := hZ.cell 1 (.int .i64 0) rfl
                  have x2 := hZ.cell 2 (.int .i64 0) rfl
                  have x3 := hZ.cell 3 (.int .i64 0) rfl
                  have x4 := hZ.cell 4 (.int .i64 0) rfl
                  have x5 := hZ.cell 5 (.int .i64 0) rfl
                  have x6 := hZ.cell 6 (.int .i64 0) rfl
                  have x7 := hZ.cell 7 (.int .u8 0) rfl
                  have x8 := hZ.cell 8 (.slice none 0 0) rfl
                  have x9 := hZ.cell 9 (.int .i64 0) rfl
                  have xA := hZ.cell 10 (.int .i64 0) rfl
                  refine bodyPost_ret (v := .tuple #[.agg #[.int .u8 0, .int .i64 0, .int .i64 0, .int .i64 0, .int .i64 0, .int .i64 0, .int .i64 0, .int .u8 0, .slice none 0 0, .int .i64 0, .int .i64 0], .int .i64 160]) (by simp [results, Tryd.results10, go_sem, x0, x1, x2, x3, x4, x5, x6, x7, x8, x9, xA]) rfl ?_
                  exact ⟨zeroCl, none, 0, 160, rfl, fun k hk => absurd hk (by simp [zeroCl]), fill_below HB.out (Nat.le_refl _) (.int .u8 0) (.int .i64 0) (.int .i64 0) (.int .i64 0) (.int .i64 0) (.int .i64 0) (.int .i64 0) (.int .u8 0) (.slice none 0 0) (.int .i64 0) (.int .i64 0), .inr ⟨rfl, rfl, parse_end_none HNO.out⟩⟩
              · have HSU := Lib.hid (show US = ⟨#[99, 114, 118, 111]⟩ by rw [← HUS.out]; rcases k1 with rfl <;> rfl)
                have HLO := Lib.hid (show argsLo kd = 3 by rcases k1 with rfl <;> rfl)
                have HRF := Lib.hid (show ∀ x0 x1 x2, refCl kd ((op : Nat) : Int) [x0, x1, x2] = ⟨kd, x0, 0, 0, x2, 0, x1, (op : Int), [], 0, 0⟩ from fun x0 x1 x2 => by
                  unfold refCl
                  rcases k1 with rfl <;> rfl)
                have HC5 := Lib.hid (show CBlk w5 q8 #[.int .u8 kd, .int .i64 0, .int .i64 0, .int .i64 0, .int .i64 0, .int .i64 0, .int .i64 0, .int .u8 (op : Int), .slice none 0 0, .int .i64 0, .int .i64 0] from HC.out)
                clear k1 hop0 HC HUS
                have hus := HSU.out
                subst hus
                clear HSU
                have har := HAR.out
                rw [HLO.out] at har
                have HAR2 := Lib.hid har
                clear har HAR
                go_upto_region 24 with fail
                go_wp2_with fail
                refine HAR2.out.mono ?_
                rintro e w5 ⟨rfl, rfl⟩
                clear HAR2
                by_cases hkl : k = 3
                · subst hkl
                  obtain ⟨x0, x1, x2, rfl⟩ : ∃ x0 x1 x2, L = [x0, x1, x2] := by
                    have h := HL.out
                    match L, h with
                    | [x0, x1, x2], _ => exact ⟨x0, x1, x2, rfl⟩
                  obtain ⟨bL, oL, hBL, hbl, d0⟩ := HLR.out w5 (Kp.refl _ _) 0 (by simp)
                  obtain ⟨b9, o9, hB9, _, d1⟩ := HLR.out w5 (Kp.refl _ _) 1 (by simp)
                  rw [hBL] at hB9
                  cases hB9
                  obtain ⟨b9, o9, hB9, _, d2⟩ := HLR.out w5 (Kp.refl _ _) 2 (by simp)
                  rw [hBL] at hB9
                  cases hB9
                  have hbq : bL ≠ q8 := by
                    have h := HBLQ.out _ hBL
                    exact fun e => by rw [e] at h; exact absurd h (Nat.lt_irrefl _)
                  have hbq2 : q8 ≠ bL := fun e => hbq e.symm
                  subst hBL
                  simp only [List.getElem_cons_zero, List.getElem_cons_succ, Nat.add_zero] at d0 d1 d2
                  have f1 := HC5.out.fz 1
                  have p1 := HC5.out.cell 1 _ rfl
                  have f6 := HC5.out.fz 6
                  have p6 := HC5.out.cell 6 _ rfl
                  have f4 := HC5.out.fz 4
                  have p4 := HC5.out.cell 4 _ rfl
                  have l5 := HC5.out.lt
                  have s0 : CBlk (w5.setCell ⟨q8, 1, none⟩ (.int .i64 x0)) q8 #[.int .u8 kd, .int .i64 x0, .int .i64 0, .int .i64 0, .int .i64 0, .int .i64 0, .int .i64 0, .int .u8 (op : Int), .slice none 0 0, .int .i64 0, .int .i64 0] := CBlk.set HC5.out 1 (.int .i64 x0)
                  have s1 : CBlk ((w5.setCell ⟨q8, 1, none⟩ (.int .i64 x0)).setCell ⟨q8, 6, none⟩ (.int .i64 x1)) q8 #[.int .u8 kd, .int .i64 x0, .int .i64 0, .int .i64 0, .int .i64 0, .int .i64 0, .int .i64 x1, .int .u8 (op : Int), .slice none 0 0, .int .i64 0, .int .i64 0] := CBlk.set s0 6 (.int .i64 x1)
                  have s2 : CBlk (((w5.setCell ⟨q8, 1, none⟩ (.int .i64 x0)).setCell ⟨q8, 6, none⟩ (.int .i64 x1)).setCell ⟨q8, 4, none⟩ (.int .i64 x2)) q8 #[.int .u8 kd, .int .i64 x0, .int .i64 0, .int .i64 0, .int .i64 x2, .int .i64 0, .int .i64 x1, .int .u8 (op : Int), .slice none 0 0, .int .i64 0, .int .i64 0] := CBlk.set s1 4 (.int .i64 x2)
                  have HR := Lib.hid (show ClBlk (((w5.setCell ⟨q8, 1, none⟩ (.int .i64 x0)).setCell ⟨q8, 6, none⟩ (.int .i64 x1)).setCell ⟨q8, 4, none⟩ (.int .i64 x2)) q8 (refCl kd ((op : Nat) : Int) [x0, x1, x2]) none 0 by rw [HRF.out]; exact s2)
                  have HKE := Lib.hid (show Kp q8 w9 (((w5.setCell ⟨q8, 1, none⟩ (.int .i64 x0)).setCell ⟨q8, 6, none⟩ (.int .i64 x1)).setCell ⟨q8, 4, none⟩ (.int .i64 x2)) from (Kp.set (Kp.set (Kp.set HK.out 1 (.int .i64 x0)) 6 (.int .i64 x1)) 4 (.int .i64 x2)))
                  have HAP := Lib.hid (show ∀ wx, IntApart wx none (refCl kd ((op : Nat) : Int) [x0, x1, x2]).reqs w.heap.size w.heap.size from fun wx => by
                    rw [HRF.out]
                    exact ⟨fun k hk => absurd hk (by simp), fun a ha => by cases ha⟩)
                  clear s0 s1 s2
                  go_wp2_with fail
                  go_meet
                  case rel => exact ⟨none, 0, (by first | exact HR | exact Lib.hid (HR.out.below (Below.refl _ _).drew)), HAP.out _, (by first | exact HKE | exact Lib.hid (HKE.out.later HQK.out (Below.refl _ _).drew))⟩
                · have hkb5 : ((k : Int) == 3) = false := by simp; omega
                  have HNO := Lib.hid (show ∀ d, ¬ CanonS s.data.toList d from fun d hd => by
                    have h := HNUM.out d hd
                    rw [HLO.out] at h
                    omega)
                  have HZ := Lib.hid (HZW.out w5 HK.out)
                  have HF := Lib.hid (HFW.out w5 HK.out)
                  have HB := Lib.hid (HBW.out w5 HK.out)
                  have f0 := HF.out.fz 0
                  have f1 := HF.out.fz 1
                  have f2 := HF.out.fz 2
                  have f3 := HF.out.fz 3
                  have f4 := HF.out.fz 4
                  have f5 := HF.out.fz 5
                  have f6 := HF.out.fz 6
                  have f7 := HF.out.fz 7
                  have f8 := HF.out.fz 8
                  have f9 := HF.out.fz 9
                  have fA := HF.out.fz 10
                  have rl := HF.out.lt
                  have r0 := HF.out.at.g0
                  have r1 := HF.out.at.g1
                  have r2 := HF.out.at.g2
                  have r3 := HF.out.at.g3
                  have r4 := HF.out.at.g4
                  have r5 := HF.out.at.g5
                  have r6 := HF.out.at.g6
                  have r7 := HF.out.at.g7
                  have r8 := HF.out.at.g8
                  have r9 := HF.out.at.g9
                  have rA := HF.out.at.gA
                  have o0 : w5.cell? ⟨q4, 0, none⟩ = some (.int .u8 0) := HZ.out.at.g0
                  have o1 : w5.cell? ⟨q4, 1, none⟩ = some (.int .i64 0) := HZ.out.at.g1
                  have o2 : w5.cell? ⟨q4, 2, none⟩ = some (.int .i64 0) := HZ.out.at.g2
                  have o3 : w5.cell? ⟨q4, 3, none⟩ = some (.int .i64 0) := HZ.out.at.g3
                  have o4 : w5.cell? ⟨q4, 4, none⟩ = some (.int .i64 0) := HZ.out.at.g4
                  have o5 : w5.cell? ⟨q4, 5, none⟩ = some (.int .i64 0) := HZ.out.at.g5
                  have o6 : w5.cell? ⟨q4, 6, none⟩ = some (.int .i64 0) := HZ.out.at.g6
                  have o7 : w5.cell? ⟨q4, 7, none⟩ = some (.int .u8 0) := HZ.out.at.g7
                  have o8 : w5.cell? ⟨q4, 8, none⟩ = some (.slice none 0 0) := HZ.out.at.g8
                  have o9 : w5.cell? ⟨q4, 9, none⟩ = some (.int .i64 0) := HZ.out.at.g9
                  have oA : w5.cell? ⟨q4, 10, none⟩ = some (.int .i64 0) := HZ.out.at.gA
                  go_wp2_with fail
                  have hZ : CBlk (((((((((((w5.setCell ⟨w.heap.size, 0, none⟩ (.int .u8 0)).setCell ⟨w.heap.size, 1, none⟩ (.int .i64 0)).setCell ⟨w.heap.size, 2, none⟩ (.int .i64 0)).setCell ⟨w.heap.size, 3, none⟩ (.int .i64 0)).setCell ⟨w.heap.size, 4, none⟩ (.int .i64 0)).setCell ⟨w.heap.size, 5, none⟩ (.int .i64 0)).setCell ⟨w.heap.size, 6, none⟩ (.int .i64 0)).setCell ⟨w.heap.size, 7, none⟩ (.int .u8 0)).setCell ⟨w.heap.size, 8, none⟩ (.slice none 0 0)).setCell ⟨w.heap.size, 9, none⟩ (.int .i64 0)).setCell ⟨w.heap.size, 10, none⟩ (.int .i64 0)) w.heap.size #[.int .u8 0, .int .i64 0, .int .i64 0, .int .i64 0, .int .i64 0, .int .i64 0, .int .i64 0, .int .u8 0, .slice none 0 0, .int .i64 0, .int .i64 0] := fill_blk HF.out rfl (.int .u8 0) (.int .i64 0) (.int .i64 0) (.int .i64 0) (.int .i64 0) (.int .i64 0) (.int .i64 0) (.int .u8 0) (.slice none 0 0) (.int .i64 0) (.int .i64 0)
                  have x0 := hZ.cell 0 (.int .u8 0) rfl
                  have x1 := hZ.cell 1 (.int .i64 0) rfl
                  have x2 := hZ.cell 2 (.int .i64 0) rfl
                  have x3 := hZ.cell 3 (.int .i64 0) rfl
                  have x4 := hZ.cell 4 (.int .i64 0) rfl
                  have x5 := hZ.cell 5 (.int .i64 0) rfl
                  have x6 := hZ.cell 6 (.int .i64 0) rfl
                  have x7 := hZ.cell 7 (.int .u8 0) rfl
                  have x8 := hZ.cell 8 (.slice none 0 0) rfl
                  have x9 := hZ.cell 9 (.int .i64 0) rfl
                  have xA := hZ.cell 10 (.int .i64 0) rfl
                  refine bodyPost_ret (v := .tuple #[.agg #[.int .u8 0, .int .i64 0, .int .i64 0, .int .i64 0, .int .i64 0, .int .i64 0, .int .i64 0, .int .u8 0, .slice none 0 0, .int .i64 0, .int .i64 0], .int .i64 160]) (by simp [results, Tryd.results10, go_sem, x0, x1, x2, x3, x4, x5, x6, x7, x8, x9, xA]) rfl ?_
                  exact ⟨zeroCl, none, 0, 160, rfl, fun k hk => absurd hk (by simp [zeroCl]), fill_below HB.out (Nat.le_refl _) (.int .u8 0) (.int .i64 0) (.int .i64 0) (.int .i64 0) (.int .i64 0) (.int .i64 0) (.int .i64 0) (.int .u8 0) (.slice none 0 0) (.int .i64 0) (.int .i64 0), .inr ⟨rfl, rfl, parse_end_none HNO.out⟩⟩
              · have HSU := Lib.hid (show US = ⟨#[99, 118, 111]⟩ by rw [← HUS.out]; rcases k1 with rfl <;> rfl)
                have HLO := Lib.hid (show argsLo kd = 2 by rcases k1 with rfl <;> rfl)
                have HRF := Lib.hid (show ∀ x0 x1, refCl kd ((op : Nat) : Int) [x0, x1] = ⟨kd, x0, 0, 0, x1, 0, 0, (op : Int), [], 0, 0⟩ from fun x0 x1 => by
                  unfold refCl
                  rcases k1 with rfl <;> rfl)
                have HC5 := Lib.hid (show CBlk w5 q8 #[.int .u8 kd, .int .i64 0, .int .i64 0, .int .i64 0, .int .i64 0, .int .i64 0, .int .i64 0, .int .u8 (op : Int), .slice none 0 0, .int .i64 0, .int .i64 0] from HC.out)
                clear k1 hop0 HC HUS
                have hus := HSU.out
                subst hus
                clear HSU
                have har := HAR.out
                rw [HLO.out] at har
                have HAR2 := Lib.hid har
                clear har HAR
                go_upto_region 24 with fail
                go_wp2_with fail
                refine HAR2.out.mono ?_
                rintro e w5 ⟨rfl, rfl⟩
                clear HAR2
                by_cases hkl : k = 2
                · subst hkl
                  obtain ⟨x0, x1, rfl⟩ : ∃ x0 x1, L = [x0, x1] := by
                    have h := HL.out
                    match L, h with
                    | [x0, x1], _ => exact ⟨x0, x1, rfl⟩
                  obtain ⟨bL, oL, hBL, hbl, d0⟩ := HLR.out w5 (Kp.refl _ _) 0 (by simp)
                  obtain ⟨b9, o9, hB9, _, d1⟩ := HLR.out w5 (Kp.refl _ _) 1 (by simp)
                  rw [hBL] at hB9
                  cases hB9
                  have hbq : bL ≠ q8 := by
                    have h := HBLQ.out _ hBL
                    exact fun e => by rw [e] at h; exact absurd h (Nat.lt_irrefl _)
                  have hbq2 : q8 ≠ bL := fun e => hbq e.symm
                  subst hBL
                  simp only [List.getElem_cons_zero, List.getElem_cons_succ, Nat.add_zero] at d0 d1
                  have f1 := HC5.out.fz 1
                  have p1 := HC5.out.cell 1 _ rfl
                  have f4 := HC5.out.fz 4
                  have p4 := HC5.out.cell 4 _ rfl
                  have l5 := HC5.out.lt
                  have s0 : CBlk (w5.setCell ⟨q8, 1, none⟩ (.int .i64 x0)) q8 #[.int .u8 kd, .int .i64 x0, .int .i64 0, .int .i64 0, .int .i64 0, .int .i64 0, .int .i64 0, .int .u8 (op : Int), .slice none 0 0, .int .i64 0, .int .i64 0] := CBlk.set HC5.out 1 (.int .i64 x0)
                  have s1 : CBlk ((w5.setCell ⟨q8, 1, none⟩ (.int .i64 x0)).setCell ⟨q8, 4, none⟩ (.int .i64 x1)) q8 #[.int .u8 kd, .int .i64 x0, .int .i64 0, .int .i64 0, .int .i64 x1, .int .i64 0, .int .i64 0, .int .u8 (op : Int), .slice none 0 0, .int .i64 0, .int .i64 0] := CBlk.set s0 4 (.int .i64 x1)
                  have HR := Lib.hid (show ClBlk ((w5.setCell ⟨q8, 1, none⟩ (.int .i64 x0)).setCell ⟨q8, 4, none⟩ (.int .i64 x1)) q8 (refCl kd ((op : Nat) : Int) [x0, x1]) none 0 by rw [HRF.out]; exact s1)
                  have HKE := Lib.hid (show Kp q8 w9 ((w5.setCell ⟨q8, 1, none⟩ (.int .i64 x0)).setCell ⟨q8, 4, none⟩ (.int .i64 x1)) from (Kp.set (Kp.set HK.out 1 (.int .i64 x0)) 4 (.int .i64 x1)))
                  have HAP := Lib.hid (show ∀ wx, IntApart wx none (refCl kd ((op : Nat) : Int) [x0, x1]).reqs w.heap.size w.heap.size from fun wx => by
                    rw [HRF.out]
                    exact ⟨fun k hk => absurd hk (by simp), fun a ha => by cases ha⟩)
                  clear s0 s1
                  go_wp2_with fail
                  go_meet
                  case rel => exact ⟨none, 0, (by first | exact HR | exact Lib.hid (HR.out.below (Below.refl _ _).drew)), HAP.out _, (by first | exact HKE | exact Lib.hid (HKE.out.later HQK.out (Below.refl _ _).drew))⟩
                · have hkb5 : ((k : Int) == 2) = false := by simp; omega
                  have HNO := Lib.hid (show ∀ d, ¬ CanonS s.data.toList d from fun d hd => by
                    have h := HNUM.out d hd
                    rw [HLO.out] at h
                    omega)
                  have HZ := Lib.hid (HZW.out w5 HK.out)
                  have HF := Lib.hid (HFW.out w5 HK.out)
                  have HB := Lib.hid (HBW.out w5 HK.out)
                  have f0 := HF.out.fz 0
                  have f1 := HF.out.fz 1
                  have f2 := HF.out.fz 2
                  have f3 := HF.out.fz 3
                  have f4 := HF.out.fz 4
                  have f5 := HF.out.fz 5
                  have f6 := HF.out.fz 6
                  have f7 := HF.out.fz 7
                  have f8 := HF.out.fz 8
                  have f9 := HF.out.fz 9
                  have fA := HF.out.fz 10
                  have rl := HF.out.lt
                  have r0 := HF.out.at.g0
                  have r1 := HF.out.at.g1
                  have r2 := HF.out.at.g2
                  have r3 := HF.out.at.g3
                  have r4 := HF.out.at.g4
                  have r5 := HF.out.at.g5
                  have r6 := HF.out.at.g6
                  have r7 := HF.out.at.g7
                  have r8 := HF.out.at.g8
                  have r9 := HF.out.at.g9
                  have rA := HF.out.at.gA
                  have o0 : w5.cell? ⟨q4, 0, none⟩ = some (.int .u8 0) := HZ.out.at.g0
                  have o1 : w5.cell? ⟨q4, 1, none⟩ = some (.int .i64 0) := HZ.out.at.g1
                  have o2 : w5.cell? ⟨q4, 2, none⟩ = some (.int .i64 0) := HZ.out.at.g2
                  have o3 : w5.cell? ⟨q4, 3, none⟩ = some (.int .i64 0) := HZ.out.at.g3
                  have o4 : w5.cell? ⟨q4, 4, none⟩ = some (.int .i64 0) := HZ.out.at.g4
                  have o5 : w5.cell? ⟨q4, 5, none⟩ = some (.int .i64 0) := HZ.out.at.g5
                  have o6 : w5.cell? ⟨q4, 6, none⟩ = some (.int .i64 0) := HZ.out.at.g6
                  have o7 : w5.cell? ⟨q4, 7, none⟩ = some (.int .u8 0) := HZ.out.at.g7
                  have o8 : w5.cell? ⟨q4, 8, none⟩ = some (.slice none 0 0) := HZ.out.at.g8
                  have o9 : w5.cell? ⟨q4, 9, none⟩ = some (.int .i64 0) := HZ.out.at.g9
                  have oA : w5.cell? ⟨q4, 10, none⟩ = some (.int .i64 0) := HZ.out.at.gA
                  go_wp2_with fail
                  have hZ : CBlk (((((((((((w5.setCell ⟨w.heap.size, 0, none⟩ (.int .u8 0)).setCell ⟨w.heap.size, 1, none⟩ (.int .i64 0)).setCell ⟨w.heap.size, 2, none⟩ (.int .i64 0)).setCell ⟨w.heap.size, 3, none⟩ (.int .i64 0)).setCell ⟨w.heap.size, 4, none⟩ (.int .i64 0)).setCell ⟨w.heap.size, 5, none⟩ (.int .i64 0)).setCell ⟨w.heap.size, 6, none⟩ (.int .i64 0)).setCell ⟨w.heap.size, 7, none⟩ (.int .u8 0)).setCell ⟨w.heap.size, 8, none⟩ (.slice none 0 0)).setCell ⟨w.heap.size, 9, none⟩ (.int .i64 0)).setCell ⟨w.heap.size, 10, none⟩ (.int .i64 0)) w.heap.size #[.int .u8 0, .int .i64 0, .int .i64 0, .int .i64 0, .int .i64 0, .int .i64 0, .int .i64 0, .int .u8 0, .slice none 0 0, .int .i64 0, .int .i64 0] := fill_blk HF.out rfl (.int .u8 0) (.int .i64 0) (.int .i64 0) (.int .i64 0) (.int .i64 0) (.int .i64 0) (.int .i64 0) (.int .u8 0) (.slice none 0 0) (.int .i64 0) (.int .i64 0)
                  have x0 := hZ.cell 0 (.int .u8 0) rfl
                  have x1 := hZ.cell 1 (.int .i64 0) rfl
                  have x2 := hZ.cell 2 (.int .i64 0) rfl
                  have x3 := hZ.cell 3 (.int .i64 0) rfl
                  have x4 := hZ.cell 4 (.int .i64 0) rfl
                  have x5 := hZ.cell 5 (.int .i64 0) rfl
                  have x6 := hZ.cell 6 (.int .i64 0) rfl
                  have x7 := hZ.cell 7 (.int .u8 0) rfl
                  have x8 := hZ.cell 8 (.slice none 0 0) rfl
                  have x9 := hZ.cell 9 (.int .i64 0) rfl
                  have xA := hZ.cell 10 (.int .i64 0) rfl
                  refine bodyPost_ret (v := .tuple #[.agg #[.int .u8 0, .int .i64 0, .int .i64 0, .int .i64 0, .int .i64 0, .int .i64 0, .int .i64 0, .int .u8 0, .slice none 0 0, .int .i64 0, .int .i64 0], .int .i64 160]) (by simp [results, Tryd.results10, go_sem, x0, x1, x2, x3, x4, x5, x6, x7, x8, x9, xA]) rfl ?_
                  exact ⟨zeroCl, none, 0, 160, rfl, fun k hk => absurd hk (by simp [zeroCl]), fill_below HB.out (Nat.le_refl _) (.int .u8 0) (.int .i64 0) (.int .i64 0) (.int .i64 0) (.int .i64 0) (.int .i64 0) (.int .i64 0) (.int .u8 0) (.slice none 0 0) (.int .i64 0) (.int .i64 0), .inr ⟨rfl, rfl, parse_end_none HNO.out⟩⟩
              · have HSU := Lib.hid (show US = ⟨#[99, 107]⟩ by rw [← HUS.out]; rcases k1 with rfl <;> rfl)
                have HLO := Lib.hid (show argsLo kd = 3 by rcases k1 with rfl <;> rfl)
                have hop1 : op = 0 := hop0 (by rw [← HRE.out]; rcases k1 with rfl <;> rfl)
                subst hop1
                have HRF := Lib.hid (show ∀ x0 x1 x2, refCl kd ((0 : Nat) : Int) [x0, x1, x2] = ⟨kd, x0, 0, 0, 0, 0, 0, 0, [], x1, x2⟩ from fun x0 x1 x2 => by
                  unfold refCl
                  rcases k1 with rfl <;> rfl)
                have HC5 := Lib.hid (show CBlk w5 q8 #[.int .u8 kd, .int .i64 0, .int .i64 0, .int .i64 0, .int .i64 0, .int .i64 0, .int .i64 0, .int .u8 (0 : Int), .slice none 0 0, .int .i64 0, .int .i64 0] from HC.out)
                clear k1 hop0 HC HUS
                have hus := HSU.out
                subst hus
                clear HSU
                have har := HAR.out
                rw [HLO.out] at har
                have HAR2 := Lib.hid har
                clear har HAR
                go_upto_region 24 with fail
                go_wp2_with fail
                refine HAR2.out.mono ?_
                rintro e w5 ⟨rfl, rfl⟩
                clear HAR2
                by_cases hkl : k = 3
                · subst hkl
                  obtain ⟨x0, x1, x2, rfl⟩ : ∃ x0 x1 x2, L = [x0, x1, x2] := by
                    have h := HL.out
                    match L, h with
                    | [x0, x1, x2], _ => exact ⟨x0, x1, x2, rfl⟩
                  obtain ⟨bL, oL, hBL, hbl, d0⟩ := HLR.out w5 (Kp.refl _ _) 0 (by simp)
                  obtain ⟨b9, o9, hB9, _, d1⟩ := HLR.out w5 (Kp.refl _ _) 1 (by simp)
                  rw [hBL] at hB9
                  cases hB9
                  obtain ⟨b9, o9, hB9, _, d2⟩ := HLR.out w5 (Kp.refl _ _) 2 (by simp)
                  rw [hBL] at hB9
                  cases hB9
                  have hbq : bL ≠ q8 := by
                    have h := HBLQ.out _ hBL
                    exact fun e => by rw [e] at h; exact absurd h (Nat.lt_irrefl _)
                  have hbq2 : q8 ≠ bL := fun e => hbq e.symm
                  subst hBL
                  simp only [List.getElem_cons_zero, List.getElem_cons_succ, Nat.add_zero] at d0 d1 d2
                  have f1 := HC5.out.fz 1
                  have p1 := HC5.out.cell 1 _ rfl
                  have f9 := HC5.out.fz 9
                  have p9 := HC5.out.cell 9 _ rfl
                  have f10 := HC5.out.fz 10
                  have p10 := HC5.out.cell 10 _ rfl
                  have l5 := HC5.out.lt
                  have s0 : CBlk (w5.setCell ⟨q8, 1, none⟩ (.int .i64 x0)) q8 #[.int .u8 kd, .int .i64 x0, .int .i64 0, .int .i64 0, .int .i64 0, .int .i64 0, .int .i64 0, .int .u8 (0 : Int), .slice none 0 0, .int .i64 0, .int .i64 0] := CBlk.set HC5.out 1 (.int .i64 x0)
                  have s1 : CBlk ((w5.setCell ⟨q8, 1, none⟩ (.int .i64 x0)).setCell ⟨q8, 9, none⟩ (.int .i64 x1)) q8 #[.int .u8 kd, .int .i64 x0, .int .i64 0, .int .i64 0, .int .i64 0, .int .i64 0, .int .i64 0, .int .u8 (0 : Int), .slice none 0 0, .int .i64 x1, .int .i64 0] := CBlk.set s0 9 (.int .i64 x1)
                  have s2 : CBlk (((w5.setCell ⟨q8, 1, none⟩ (.int .i64 x0)).setCell ⟨q8, 9, none⟩ (.int .i64 x1)).setCell ⟨q8, 10, none⟩ (.int .i64 x2)) q8 #[.int .u8 kd, .int .i64 x0, .int .i64 0, .int .i64 0, .int .i64 0, .int .i64 0, .int .i64 0, .int .u8 (0 : Int), .slice none 0 0, .int .i64 x1, .int .i64 x2] := CBlk.set s1 10 (.int .i64 x2)
                  have HR := Lib.hid (show ClBlk (((w5.setCell ⟨q8, 1, none⟩ (.int .i64 x0)).setCell ⟨q8, 9, none⟩ (.int .i64 x1)).setCell ⟨q8, 10, none⟩ (.int .i64 x2)) q8 (refCl kd ((0 : Nat) : Int) [x0, x1, x2]) none 0 by rw [HRF.out]; exact s2)
                  have HKE := Lib.hid (show Kp q8 w9 (((w5.setCell ⟨q8, 1, none⟩ (.int .i64 x0)).setCell ⟨q8, 9, none⟩ (.int .i64 x1)).setCell ⟨q8, 10, none⟩ (.int .i64 x2)) from (Kp.set (Kp.set (Kp.set HK.out 1 (.int .i64 x0)) 9 (.int .i64 x1)) 10 (.int .i64 x2)))
                  have HAP := Lib.hid (show ∀ wx, IntApart wx none (refCl kd ((0 : Nat) : Int) [x0, x1, x2]).reqs w.heap.size w.heap.size from fun wx => by
                    rw [HRF.out]
                    exact ⟨fun k hk => absurd hk (by simp), fun a ha => by cases ha⟩)
                  clear s0 s1 s2
                  go_upto_region 42 with fail
                  go_region
                  go_wp2_with fail
                  go_meet
                  case rel => exact ⟨none, 0, (by first | exact HR | exact Lib.hid (HR.out.below (Below.refl _ _).drew)), HAP.out _, (by first | exact HKE | exact Lib.hid (HKE.out.later HQK.out (Below.refl _ _).drew))⟩
                · have hkb5 : ((k : Int) == 3) = false := by simp; omega
                  have HNO := Lib.hid (show ∀ d, ¬ CanonS s.data.toList d from fun d hd => by
                    have h := HNUM.out d hd
                    rw [HLO.out] at h
                    omega)
                  have HZ := Lib.hid (HZW.out w5 HK.out)
                  have HF := Lib.hid (HFW.out w5 HK.out)
                  have HB := Lib.hid (HBW.out w5 HK.out)
                  have f0 := HF.out.fz 0
                  have f1 := HF.out.fz 1
                  have f2 := HF.out.fz 2
                  have f3 := HF.out.fz 3
                  have f4 := HF.out.fz 4
                  have f5 := HF.out.fz 5
                  have f6 := HF.out.fz 6
                  have f7 := HF.out.fz 7
                  have f8 := HF.out.fz 8
                  have f9 := HF.out.fz 9
                  have fA := HF.out.fz 10
                  have rl := HF.out.lt
                  have r0 := HF.out.at.g0
                  have r1 := HF.out.at.g1
                  have r2 := HF.out.at.g2
                  have r3 := HF.out.at.g3
                  have r4 := HF.out.at.g4
                  have r5 := HF.out.at.g5
                  have r6 := HF.out.at.g6
                  have r7 := HF.out.at.g7
                  have r8 := HF.out.at.g8
                  have r9 := HF.out.at.g9
                  have rA := HF.out.at.gA
                  have o0 : w5.cell? ⟨q4, 0, none⟩ = some (.int .u8 0) := HZ.out.at.g0
                  have o1 : w5.cell? ⟨q4, 1, none⟩ = some (.int .i64 0) := HZ.out.at.g1
                  have o2 : w5.cell? ⟨q4, 2, none⟩ = some (.int .i64 0) := HZ.out.at.g2
                  have o3 : w5.cell? ⟨q4, 3, none⟩ = some (.int .i64 0) := HZ.out.at.g3
                  have o4 : w5.cell? ⟨q4, 4, none⟩ = some (.int .i64 0) := HZ.out.at.g4
                  have o5 : w5.cell? ⟨q4, 5, none⟩ = some (.int .i64 0) := HZ.out.at.g5
                  have o6 : w5.cell? ⟨q4, 6, none⟩ = some (.int .i64 0) := HZ.out.at.g6
                  have o7 : w5.cell? ⟨q4, 7, none⟩ = some (.int .u8 0) := HZ.out.at.g7
                  have o8 : w5.cell? ⟨q4, 8, none⟩ = some (.slice none 0 0) := HZ.out.at.g8
                  have o9 : w5.cell? ⟨q4, 9, none⟩ = some (.int .i64 0) := HZ.out.at.g9
                  have oA : w5.cell? ⟨q4, 10, none⟩ = some (.int .i64 0) := HZ.out.at.gA
                  go_wp2_with fail
                  have hZ : CBlk (((((((((((w5.setCell ⟨w.heap.size, 0, none⟩ (.int .u8 0)).setCell ⟨w.heap.size, 1, none⟩ (.int .i64 0)).setCell ⟨w.heap.size, 2, none⟩ (.int .i64 0)).setCell ⟨w.heap.size, 3, none⟩ (.int .i64 0)).setCell ⟨w.heap.size, 4, none⟩ (.int .i64 0)).setCell ⟨w.heap.size, 5, none⟩ (.int .i64 0)).setCell ⟨w.heap.size, 6, none⟩ (.int .i64 0)).setCell ⟨w.heap.size, 7, none⟩ (.int .u8 0)).setCell ⟨w.heap.size, 8, none⟩ (.slice none 0 0)).setCell ⟨w.heap.size, 9, none⟩ (.int .i64 0)).setCell ⟨w.heap.size, 10, none⟩ (.int .i64 0)) w.heap.size #[.int .u8 0, .int .i64 0, .int .i64 0, .int .i64 0, .int .i64 0, .int .i64 0, .int .i64 0, .int .u8 0, .slice none 0 0, .int .i64 0, .int .i64 0] := fill_blk HF.out rfl (.int .u8 0) (.int .i64 0) (.int .i64 0) (.int .i64 0) (.int .i64 0) (.int .i64 0) (.int .i64 0) (.int .u8 0) (.slice none 0 0) (.int .i64 0) (.int .i64 0)
                  have x0 := hZ.cell 0 (.int .u8 0) rfl
                  have x1 := hZ.cell 1 (.int .i64 0) rfl
                  have x2 := hZ.cell 2 (.int .i64 0) rfl
                  have x3 := hZ.cell 3 (.int .i64 0) rfl
                  have x4 := hZ.cell 4 (.int .i64 0) rfl
                  have x5 := hZ.cell 5 (.int .i64 0) rfl
                  have x6 := hZ.cell 6 (.int .i64 0) rfl
                  have x7 := hZ.cell 7 (.int .u8 0) rfl
                  have x8 := hZ.cell 8 (.slice none 0 0) rfl
                  have x9 := hZ.cell 9 (.int .i64 0) rfl
                  have xA := hZ.cell 10 (.int .i64 0) rfl
                  refine bodyPost_ret (v := .tuple #[.agg #[.int .u8 0, .int .i64 0, .int .i64 0, .int .i64 0, .int .i64 0, .int .i64 0, .int .i64 0, .int .u8 0, .slice none 0 0, .int .i64 0, .int .i64 0], .int .i64 160]) (by simp [results, Tryd.results10, go_sem, x0, x1, x2, x3, x4, x5, x6, x7, x8, x9, xA]) rfl ?_
                  exact ⟨zeroCl, none, 0, 160, rfl, fun k hk => absurd hk (by simp [zeroCl]), fill_below HB.out (Nat.le_refl _) (.int .u8 0) (.int .i64 0) (.int .i64 0) (.int .i64 0) (.int .i64 0) (.int .i64 0) (.int .i64 0) (.int .u8 0) (.slice none 0 0) (.int .i64 0) (.int .i64 0), .inr ⟨rfl, rfl, parse_end_none HNO.out⟩⟩

          case rest =>
            obtain ⟨B, cb, HR, HAP, HKE⟩ := hcut
            clear HC HK HLR HISL HUS hop0
            have HRO := Lib.hid (refCl_ok (k := kd) (op := op) (L := L) (by omega) (by omega) HLI.out)
            have hrl := refCl_reqs kd op L
            rw [HL.out] at hrl
            have HFI := Lib.hid (fun d hd => (HFIN.out d hd).2.2)
            clear HFIN
            generalize refCl kd op L = c at *
            have hcl : c.reqs.length ≤ 301 := by omega
            have HTX := Lib.hid (rText_any c B cb wc HRO.out HAP.out.1 (by omega))
            have p0 := HR.out.at.g0
            have p1 := HR.out.at.g1
            have p2 := HR.out.at.g2
            have p3 := HR.out.at.g3
            have p4 := HR.out.at.g4
            have p5 := HR.out.at.g5
            have p6 := HR.out.at.g6
            have p7 := HR.out.at.g7
            have p8 := HR.out.at.g8
            have p9 := HR.out.at.g9
            have pA := HR.out.at.gA
            go_upto_region 43 with fail
            go_wp2_with fail
            refine HTX.out.mono ?_
            rintro e wz htp
            obtain ⟨rfl, hbz⟩ := htp
            have HK := Lib.hid (HKE.out.later HQK.out hbz)
            have HF := Lib.hid (HFW.out wz HK.out)
            have HZ := Lib.hid (HZW.out wz HK.out)
            have HB := Lib.hid (HBW.out wz HK.out)
            have HS := Lib.hid (HR.out.below hbz)
            have HIZ := Lib.hid (show IntApart wz B c.reqs w.heap.size w.heap.size from ⟨HAP.out.1.below hbz, HAP.out.2⟩)
            clear hbz HTX HKE HR HAP p0 p1 p2 p3 p4 p5 p6 p7 p8 p9 pA HSR HFW HZW HBW
            obtain ⟨TX, hTX⟩ : ∃ TX : ByteArray, (⟨(textOfC c).toArray⟩ : ByteArray) = TX := ⟨_, rfl⟩
            rw [hTX]
            have HTXB := Lib.hid hTX
            clear hTX
            cases htb : textB c
            case false =>
              have HER := Lib.hid (show errOfC c = 160 by unfold errOfC; rw [htb]; rfl)
              have HNO := Lib.hid (parse_end_no HFI.out (.inl (by rw [HER.out]; decide)))
              rw [HER.out]
              clear htb
              have f0 := HF.out.fz 0
              have f1 := HF.out.fz 1
              have f2 := HF.out.fz 2
              have f3 := HF.out.fz 3
              have f4 := HF.out.fz 4
              have f5 := HF.out.fz 5
              have f6 := HF.out.fz 6
              have f7 := HF.out.fz 7
              have f8 := HF.out.fz 8
              have f9 := HF.out.fz 9
              have fA := HF.out.fz 10
              have rl := HF.out.lt
              have r0 := HF.out.at.g0
              have r1 := HF.out.at.g1
              have r2 := HF.out.at.g2
              have r3 := HF.out.at.g3
              have r4 := HF.out.at.g4
              have r5 := HF.out.at.g5
              have r6 := HF.out.at.g6
              have r7 := HF.out.at.g7
              have r8 := HF.out.at.g8
              have r9 := HF.out.at.g9
              have rA := HF.out.at.gA
              have o0 : wz.cell? ⟨q4, 0, none⟩ = some (.int .u8 0) := HZ.out.at.g0
              have o1 : wz.cell? ⟨q4, 1, none⟩ = some (.int .i64 0) := HZ.out.at.g1
              have o2 : wz.cell? ⟨q4, 2, none⟩ = some (.int .i64 0) := HZ.out.at.g2
              have o3 : wz.cell? ⟨q4, 3, none⟩ = some (.int .i64 0) := HZ.out.at.g3
              have o4 : wz.cell? ⟨q4, 4, none⟩ = some (.int .i64 0) := HZ.out.at.g4
              have o5 : wz.cell? ⟨q4, 5, none⟩ = some (.int .i64 0) := HZ.out.at.g5
              have o6 : wz.cell? ⟨q4, 6, none⟩ = some (.int .i64 0) := HZ.out.at.g6
              have o7 : wz.cell? ⟨q4, 7, none⟩ = some (.int .u8 0) := HZ.out.at.g7
              have o8 : wz.cell? ⟨q4, 8, none⟩ = some (.slice none 0 0) := HZ.out.at.g8
              have o9 : wz.cell? ⟨q4, 9, none⟩ = some (.int .i64 0) := HZ.out.at.g9
              have oA : wz.cell? ⟨q4, 10, none⟩ = some (.int .i64 0) := HZ.out.at.gA
              go_wp2_with fail
              have hZ : CBlk (((((((((((wz.setCell ⟨w.heap.size, 0, none⟩ (.int .u8 0)).setCell ⟨w.heap.size, 1, none⟩ (.int .i64 0)).setCell ⟨w.heap.size, 2, none⟩ (.int .i64 0)).setCell ⟨w.heap.size, 3, none⟩ (.int .i64 0)).setCell ⟨w.heap.size, 4, none⟩ (.int .i64 0)).setCell ⟨w.heap.size, 5, none⟩ (.int .i64 0)).setCell ⟨w.heap.size, 6, none⟩ (.int .i64 0)).setCell ⟨w.heap.size, 7, none⟩ (.int .u8 0)).setCell ⟨w.heap.size, 8, none⟩ (.slice none 0 0)).setCell ⟨w.heap.size, 9, none⟩ (.int .i64 0)).setCell ⟨w.heap.size, 10, none⟩ (.int .i64 0)) w.heap.size #[.int .u8 0, .int .i64 0, .int .i64 0, .int .i64 0, .int .i64 0, .int .i64 0, .int .i64 0, .int .u8 0, .slice none 0 0, .int .i64 0, .int .i64 0] := fill_blk HF.out rfl (.int .u8 0) (.int .i64 0) (.int .i64 0) (.int .i64 0) (.int .i64 0) (.int .i64 0) (.int .i64 0) (.int .u8 0) (.slice none 0 0) (.int .i64 0) (.int .i64 0)
              have x0 := hZ.cell 0 (.int .u8 0) rfl
              have x1 := hZ.cell 1 (.int .i64 0) rfl
              have x2 := hZ.cell 2 (.int .i64 0) rfl
              have x3 := hZ.cell 3 (.int .i64 0) rfl
              have x4 := hZ.cell 4 (.int .i64 0) rfl
              have x5 := hZ.cell 5 (.int .i64 0) rfl
              have x6 := hZ.cell 6 (.int .i64 0) rfl
              have x7 := hZ.cell 7 (.int .u8 0) rfl
              have x8 := hZ.cell 8 (.slice none 0 0) rfl
              have x9 := hZ.cell 9 (.int .i64 0) rfl
              have xA := hZ.cell 10 (.int .i64 0) rfl
              refine bodyPost_ret (v := .tuple #[.agg #[.int .u8 0, .int .i64 0, .int .i64 0, .int .i64 0, .int .i64 0, .int .i64 0, .int .i64 0, .int .u8 0, .slice none 0 0, .int .i64 0, .int .i64 0], .int .i64 160]) (by simp [results, Tryd.results10, go_sem, x0, x1, x2, x3, x4, x5, x6, x7, x8, x9, xA]) rfl ?_
              exact ⟨zeroCl, none, 0, 160, rfl, fun k hk => absurd hk (by simp [zeroCl]), fill_below HB.out (Nat.le_refl _) (.int .u8 0) (.int .i64 0) (.int .i64 0) (.int .i64 0) (.int .i64 0) (.int .i64 0) (.int .i64 0) (.int .u8 0) (.slice none 0 0) (.int .i64 0) (.int .i64 0), .inr ⟨rfl, rfl, HNO.out⟩⟩
            case true =>
              have HER := Lib.hid (show errOfC c = 0 by unfold errOfC; rw [htb]; rfl)
              rw [HER.out]
              clear htb
              cases hcmp : (TX.toList == s.toList)
              case false =>
                have HNO := Lib.hid (parse_end_no HFI.out (.inr (by
                  rw [HTXB.out]
                  intro h
                  rw [h] at hcmp
                  simp at hcmp)))
                have f0 := HF.out.fz 0
                have f1 := HF.out.fz 1
                have f2 := HF.out.fz 2
                have f3 := HF.out.fz 3
                have f4 := HF.out.fz 4
                have f5 := HF.out.fz 5
                have f6 := HF.out.fz 6
                have f7 := HF.out.fz 7
                have f8 := HF.out.fz 8
                have f9 := HF.out.fz 9
                have fA := HF.out.fz 10
                have rl := HF.out.lt
                have r0 := HF.out.at.g0
                have r1 := HF.out.at.g1
                have r2 := HF.out.at.g2
                have r3 := HF.out.at.g3
                have r4 := HF.out.at.g4
                have r5 := HF.out.at.g5
                have r6 := HF.out.at.g6
                have r7 := HF.out.at.g7
                have r8 := HF.out.at.g8
                have r9 := HF.out.at.g9
                have rA := HF.out.at.gA
                have o0 : wz.cell? ⟨q4, 0, none⟩ = some (.int .u8 0) := HZ.out.at.g0
                have o1 : wz.cell? ⟨q4, 1, none⟩ = some (.int .i64 0) := HZ.out.at.g1
                have o2 : wz.cell? ⟨q4, 2, none⟩ = some (.int .i64 0) := HZ.out.at.g2
                have o3 : wz.cell? ⟨q4, 3, none⟩ = some (.int .i64 0) := HZ.out.at.g3
                have o4 : wz.cell? ⟨q4, 4, none⟩ = some (.int .i64 0) := HZ.out.at.g4
                have o5 : wz.cell? ⟨q4, 5, none⟩ = some (.int .i64 0) := HZ.out.at.g5
                have o6 : wz.cell? ⟨q4, 6, none⟩ = some (.int .i64 0) := HZ.out.at.g6
                have o7 : wz.cell? ⟨q4, 7, none⟩ = some (.int .u8 0) := HZ.out.at.g7
                have o8 : wz.cell? ⟨q4, 8, none⟩ = some (.slice none 0 0) := HZ.out.at.g8
                have o9 : wz.cell? ⟨q4, 9, none⟩ = some (.int .i64 0) := HZ.out.at.g9
                have oA : wz.cell? ⟨q4, 10, none⟩ = some (.int .i64 0) := HZ.out.at.gA
                go_wp2_with fail
                have hZ : CBlk (((((((((((wz.setCell ⟨w.heap.size, 0, none⟩ (.int .u8 0)).setCell ⟨w.heap.size, 1, none⟩ (.int .i64 0)).setCell ⟨w.heap.size, 2, none⟩ (.int .i64 0)).setCell ⟨w.heap.size, 3, none⟩ (.int .i64 0)).setCell ⟨w.heap.size, 4, none⟩ (.int .i64 0)).setCell ⟨w.heap.size, 5, none⟩ (.int .i64 0)).setCell ⟨w.heap.size, 6, none⟩ (.int .i64 0)).setCell ⟨w.heap.size, 7, none⟩ (.int .u8 0)).setCell ⟨w.heap.size, 8, none⟩ (.slice none 0 0)).setCell ⟨w.heap.size, 9, none⟩ (.int .i64 0)).setCell ⟨w.heap.size, 10, none⟩ (.int .i64 0)) w.heap.size #[.int .u8 0, .int .i64 0, .int .i64 0, .int .i64 0, .int .i64 0, .int .i64 0, .int .i64 0, .int .u8 0, .slice none 0 0, .int .i64 0, .int .i64 0] := fill_blk HF.out rfl (.int .u8 0) (.int .i64 0) (.int .i64 0) (.int .i64 0) (.int .i64 0) (.int .i64 0) (.int .i64 0) (.int .u8 0) (.slice none 0 0) (.int .i64 0) (.int .i64 0)
                have x0 := hZ.cell 0 (.int .u8 0) rfl
                have x1 := hZ.cell 1 (.int .i64 0) rfl
                have x2 := hZ.cell 2 (.int .i64 0) rfl
                have x3 := hZ.cell 3 (.int .i64 0) rfl
                have x4 := hZ.cell 4 (.int .i64 0) rfl
                have x5 := hZ.cell 5 (.int .i64 0) rfl
                have x6 := hZ.cell 6 (.int .i64 0) rfl
                have x7 := hZ.cell 7 (.int .u8 0) rfl
                have x8 := hZ.cell 8 (.slice none 0 0) rfl
                have x9 := hZ.cell 9 (.int .i64 0) rfl
                have xA := hZ.cell 10 (.int .i64 0) rfl
                refine bodyPost_ret (v := .tuple #[.agg #[.int .u8 0, .int .i64 0, .int .i64 0, .int .i64 0, .int .i64 0, .int .i64 0, .int .i64 0, .int .u8 0, .slice none 0 0, .int .i64 0, .int .i64 0], .int .i64 160]) (by simp [results, Tryd.results10, go_sem, x0, x1, x2, x3, x4, x5, x6, x7, x8, x9, xA]) rfl ?_
                exact ⟨zeroCl, none, 0, 160, rfl, fun k hk => absurd hk (by simp [zeroCl]), fill_below HB.out (Nat.le_refl _) (.int .u8 0) (.int .i64 0) (.int .i64 0) (.int .i64 0) (.int .i64 0) (.int .i64 0) (.int .i64 0) (.int .u8 0) (.slice none 0 0) (.int .i64 0) (.int .i64 0), .inr ⟨rfl, rfl, HNO.out⟩⟩
              case true =>
                have HEQ := Lib.hid (show TX = s by
                  have h := beq_iff_eq.1 hcmp
                  rw [ByteArray.toList_eq, ByteArray.toList_eq] at h
                  exact ByteArray.ext (Array.toList_inj.1 h))
                have HYES := Lib.hid (parse_end_yes HER.out (HTXB.out.trans HEQ.out))
                have f0 := HF.out.fz 0
                have f1 := HF.out.fz 1
                have f2 := HF.out.fz 2
                have f3 := HF.out.fz 3
                have f4 := HF.out.fz 4
                have f5 := HF.out.fz 5
                have f6 := HF.out.fz 6
                have f7 := HF.out.fz 7
                have f8 := HF.out.fz 8
                have f9 := HF.out.fz 9
                have fA := HF.out.fz 10
                have rl := HF.out.lt
                have r0 := HF.out.at.g0
                have r1 := HF.out.at.g1
                have r2 := HF.out.at.g2
                have r3 := HF.out.at.g3
                have r4 := HF.out.at.g4
                have r5 := HF.out.at.g5
                have r6 := HF.out.at.g6
                have r7 := HF.out.at.g7
                have r8 := HF.out.at.g8
                have r9 := HF.out.at.g9
                have rA := HF.out.at.gA
                have o0 : wz.cell? ⟨q8, 0, none⟩ = some (.int .u8 c.kind) := HS.out.at.g0
                have o1 : wz.cell? ⟨q8, 1, none⟩ = some (.int .i64 c.comm) := HS.out.at.g1
                have o2 : wz.cell? ⟨q8, 2, none⟩ = some (.int .i64 c.peer) := HS.out.at.g2
                have o3 : wz.cell? ⟨q8, 3, none⟩ = some (.int .i64 c.tag) := HS.out.at.g3
                have o4 : wz.cell? ⟨q8, 4, none⟩ = some (.int .i64 c.value) := HS.out.at.g4
                have o5 : wz.cell? ⟨q8, 5, none⟩ = some (.int .i64 c.size) := HS.out.at.g5
                have o6 : wz.cell? ⟨q8, 6, none⟩ = some (.int .i64 c.root) := HS.out.at.g6
                have o7 : wz.cell? ⟨q8, 7, none⟩ = some (.int .u8 c.op) := HS.out.at.g7
                have o8 : wz.cell? ⟨q8, 8, none⟩ = some (.slice B c.reqs.length cb) := HS.out.at.g8
                have o9 : wz.cell? ⟨q8, 9, none⟩ = some (.int .i64 c.color) := HS.out.at.g9
                have oA : wz.cell? ⟨q8, 10, none⟩ = some (.int .i64 c.key) := HS.out.at.gA
                go_wp2_with fail
                have hZ : CBlk (((((((((((wz.setCell ⟨w.heap.size, 0, none⟩ (.int .u8 c.kind)).setCell ⟨w.heap.size, 1, none⟩ (.int .i64 c.comm)).setCell ⟨w.heap.size, 2, none⟩ (.int .i64 c.peer)).setCell ⟨w.heap.size, 3, none⟩ (.int .i64 c.tag)).setCell ⟨w.heap.size, 4, none⟩ (.int .i64 c.value)).setCell ⟨w.heap.size, 5, none⟩ (.int .i64 c.size)).setCell ⟨w.heap.size, 6, none⟩ (.int .i64 c.root)).setCell ⟨w.heap.size, 7, none⟩ (.int .u8 c.op)).setCell ⟨w.heap.size, 8, none⟩ (.slice B c.reqs.length cb)).setCell ⟨w.heap.size, 9, none⟩ (.int .i64 c.color)).setCell ⟨w.heap.size, 10, none⟩ (.int .i64 c.key)) w.heap.size #[.int .u8 c.kind, .int .i64 c.comm, .int .i64 c.peer, .int .i64 c.tag, .int .i64 c.value, .int .i64 c.size, .int .i64 c.root, .int .u8 c.op, .slice B c.reqs.length cb, .int .i64 c.color, .int .i64 c.key] := fill_blk HF.out rfl (.int .u8 c.kind) (.int .i64 c.comm) (.int .i64 c.peer) (.int .i64 c.tag) (.int .i64 c.value) (.int .i64 c.size) (.int .i64 c.root) (.int .u8 c.op) (.slice B c.reqs.length cb) (.int .i64 c.color) (.int .i64 c.key)
                have x0 := hZ.cell 0 (.int .u8 c.kind) rfl
                have x1 := hZ.cell 1 (.int .i64 c.comm) rfl
                have x2 := hZ.cell 2 (.int .i64 c.peer) rfl
                have x3 := hZ.cell 3 (.int .i64 c.tag) rfl
                have x4 := hZ.cell 4 (.int .i64 c.value) rfl
                have x5 := hZ.cell 5 (.int .i64 c.size) rfl
                have x6 := hZ.cell 6 (.int .i64 c.root) rfl
                have x7 := hZ.cell 7 (.int .u8 c.op) rfl
                have x8 := hZ.cell 8 (.slice B c.reqs.length cb) rfl
                have x9 := hZ.cell 9 (.int .i64 c.color) rfl
                have xA := hZ.cell 10 (.int .i64 c.key) rfl
                refine bodyPost_ret (v := .tuple #[.agg #[.int .u8 c.kind, .int .i64 c.comm, .int .i64 c.peer, .int .i64 c.tag, .int .i64 c.value, .int .i64 c.size, .int .i64 c.root, .int .u8 c.op, .slice B c.reqs.length cb, .int .i64 c.color, .int .i64 c.key], .int .i64 0]) (by simp [results, Tryd.results10, go_sem, x0, x1, x2, x3, x4, x5, x6, x7, x8, x9, xA]) rfl ?_
                exact ⟨c, B, cb, 0, rfl, (fill_apart HIZ.out (.int .u8 c.kind) (.int .i64 c.comm) (.int .i64 c.peer) (.int .i64 c.tag) (.int .i64 c.value) (.int .i64 c.size) (.int .i64 c.root) (.int .u8 c.op) (.slice B c.reqs.length cb) (.int .i64 c.color) (.int .i64 c.key)).1, fill_below HB.out (Nat.le_refl _) (.int .u8 c.kind) (.int .i64 c.comm) (.int .i64 c.peer) (.int .i64 c.tag) (.int .i64 c.value) (.int .i64 c.size) (.int .i64 c.root) (.int .u8 c.op) (.slice B c.reqs.length cb) (.int .i64 c.color) (.int .i64 c.key), .inl ⟨rfl, HRO.out, HYES.out.1, HYES.out.2⟩⟩
end Go.Proofs.YtgphigpbgiceiaaDoor
