/- Whether whole numbers are from 0 to 255 and none twice, by the sorted row. · Whether a call may be, plainly; the walks of call.in, call.open, call.listed, call.Decides and of the reference's Decides, many. -/
import Derived.Lib.SlicesCompact
import Derived.Test.YtgphigpbgiceiaaDoorCl
namespace Go.Proofs.YtgphigpbgiceiaaDoor
set_option linter.unusedVariables false
set_option linter.unusedSimpArgs false

def sortI (l : List Int) : List Int := l.mergeSort fun x y => decide (x ≤ y)
theorem sortI_perm (l : List Int) : (sortI l).Perm l := List.mergeSort_perm l _
theorem sortI_len (l : List Int) : (sortI l).length = l.length := (sortI_perm l).length_eq
theorem sortI_pair (l : List Int) : (sortI l).Pairwise (· ≤ ·) := by
  have := List.pairwise_mergeSort (le := fun x y : Int => decide (x ≤ y)) (by intro a b c h1 h2; simp at *; omega) (by intro a b; simp; omega) l
  exact this.imp (by simp)
theorem sortI_le (l : List Int) (i j : Nat) (hij : i ≤ j) (hj : j < (sortI l).length) : (sortI l)[i] ≤ (sortI l)[j] := by
  rcases Nat.lt_or_eq_of_le hij with h | rfl
  · exact (List.pairwise_iff_getElem.1 (sortI_pair l)) i j (by omega) hj h
  · exact Int.le_refl _
/-- Requests that may be: each from 0 to 255, none twice. -/
def okReqs (l : List Int) : Bool := (l.all fun n => decide (0 ≤ n) && decide (n ≤ 255)) && decide l.Nodup
theorem keeps_iff (l : List Int) (j : Nat) (hj : j < l.length) (h0 : 0 < j) : Lib.keeps l.toArray j = true ↔ l[j] ≠ l[j - 1] := by
  unfold Lib.keeps
  have h1 : l.toArray[j]! = l[j] := by rw [getElem!_pos _ _ (by simpa using hj)]; simp
  have h2 : l.toArray[j - 1]! = l[j - 1] := by rw [getElem!_pos _ _ (by simp; omega)]; simp
  rw [h1, h2, decide_eq_true_iff]
  constructor
  · rintro (h | h)
    · omega
    · exact h
  · exact .inr
theorem compact_len (l : List Int) : (Lib.compact (sortI l)).length = l.length ↔ l.Nodup := by
  rw [← sortI_len l]
  have hN : l.Nodup ↔ (sortI l).Nodup := (sortI_perm l).symm.nodup_iff
  rw [hN]
  constructor
  · intro h
    have hall : ∀ j, j < (sortI l).length → Lib.keeps (sortI l).toArray j = true := by
      unfold Lib.compact Lib.compactUpTo at h
      rw [List.length_map] at h
      have h2 : ((List.range (sortI l).length).filter (Lib.keeps (sortI l).toArray)).length = (List.range (sortI l).length).length := by rw [h, List.length_range]
      have h3 := List.length_filter_eq_length_iff.1 h2
      exact fun j hj => h3 j (List.mem_range.2 hj)
    unfold List.Nodup
    rw [List.pairwise_iff_getElem]
    intro i j hi hj hij he
    have h1 := (keeps_iff (sortI l) (i + 1) (by omega) (by omega)).1 (hall (i + 1) (by omega))
    simp only [Nat.add_sub_cancel] at h1
    have h2 := sortI_le l i (i + 1) (by omega) (by omega)
    have h3 := sortI_le l (i + 1) j (by omega) hj
    omega
  · intro h
    rw [Lib.compact_all]
    intro j hj
    rcases Nat.eq_zero_or_pos j with rfl | h0
    · exact Lib.keeps_lt_one _ 0 (by omega)
    · rw [keeps_iff _ _ hj h0]
      intro he
      have := (List.pairwise_iff_getElem.1 h) (j - 1) j (by omega) hj (by omega)
      exact this he.symm
theorem all_ge (l : List Int) (h : 0 < l.length) : 0 ≤ (sortI l)[0]'(by rw [sortI_len]; exact h) ↔ ∀ x ∈ l, 0 ≤ x := by
  constructor
  · intro h0 x hx
    obtain ⟨j, hj, rfl⟩ := List.getElem_of_mem ((sortI_perm l).mem_iff.2 hx)
    exact Int.le_trans h0 (sortI_le l 0 j (by omega) hj)
  · intro ha
    exact ha _ ((sortI_perm l).mem_iff.1 (List.getElem_mem _))
theorem all_lt (l : List Int) (h : 0 < l.length) : (sortI l)[l.length - 1]'(by rw [sortI_len]; omega) < 256 ↔ ∀ x ∈ l, x ≤ 255 := by
  constructor
  · intro h0 x hx
    obtain ⟨j, hj, rfl⟩ := List.getElem_of_mem ((sortI_perm l).mem_iff.2 hx)
    have hj2 := hj
    rw [sortI_len] at hj2
    have := sortI_le l j (l.length - 1) (by omega) (by rw [sortI_len]; omega)
    omega
  · intro ha
    have := ha _ ((sortI_perm l).mem_iff.1 (List.getElem_mem (l := sortI l) (n := l.length - 1) (by rw [sortI_len]; omega)))
    omega
/-- What the program asks of the sorted row, and what it comes to. -/
theorem okReqs_sorted (l : List Int) (h : 0 < l.length) : okReqs l = (decide ((Lib.compact (sortI l)).length = l.length) && decide (0 ≤ (sortI l)[0]'(by rw [sortI_len]; exact h)) && decide ((sortI l)[l.length - 1]'(by rw [sortI_len]; omega) < 256)) := by
  rw [Bool.eq_iff_iff]
  unfold okReqs
  simp only [Bool.and_eq_true, decide_eq_true_iff, List.all_eq_true]
  rw [compact_len, all_ge l h, all_lt l h]
  constructor
  · rintro ⟨h1, h2⟩
    exact ⟨⟨h2, fun x hx => (h1 x hx).1⟩, fun x hx => (h1 x hx).2⟩
  · rintro ⟨⟨h2, h1⟩, h3⟩
    exact ⟨fun x hx => ⟨h1 x hx, h3 x hx⟩, h2⟩
end Go.Proofs.YtgphigpbgiceiaaDoor
namespace Go.Proofs.YtgphigpbgiceiaaDoor
open Go.RowKit Go.Sort
set_option linter.unusedVariables false
set_option linter.unusedSimpArgs false

def openK (k : Int) : Bool := k == 6 || k == 7 || k == 13 || k == 14
def anyK (k : Int) : Int := if openK k = true then -1 else 0
def inC (n a b : Int) : Bool := decide (a ≤ n) && decide (n ≤ b)
def listedB (c : Cl) : Bool := if c.kind = 8 ∨ c.kind = 11 then c.reqs.length == 1 else decide (1 ≤ c.reqs.length) && decide (c.reqs.length ≤ 8)
def fieldB (c : Cl) (last : Int) (f : Int) : Bool :=
  if f = 0 then inC c.comm 0 31 else if f = 1 then inC c.peer (anyK c.kind) last else if f = 2 then inC c.tag (anyK c.kind) 32767 else if f = 4 then inC c.size 1 64
  else if f = 5 then inC c.root 0 last else if f = 9 then decide (c.op ≤ 2) else if f = 8 then listedB c && okReqs c.reqs else true
def groupB (l : List Int) : Bool := (l.all fun n => decide (0 ≤ n) && decide (n < 64)) && decide l.Nodup && decide (0 < l.length)
/-- Whether a call may be on a group of these ranks. -/
def mayB (c : Cl) (g : List Int) (l : Option (List Int)) : Bool := l.isSome && groupB g && (l.getD []).all (fieldB c (g.length - 1))
def decB (c : Cl) : Bool := (c.kind == 10 || c.kind == 11 || c.kind == 12 || c.kind == 14) || openK c.kind && c.peer == -1

set_option maxHeartbeats 2000000 in
theorem in_any (n a b : Int) (w : World) : Calls Tryd.prog 49 #[.int .i64 n, .int .i64 a, .int .i64 b] w fun e w' => e = .returned (.bool (inC n a b)) ∧ w' = w := by
  obtain ⟨x, hx⟩ : ∃ x, decide (a ≤ n) = x := ⟨_, rfl⟩
  unfold inC
  rw [hx]
  cases x
  all_goals
    go_enter Tryd.func49, Tryd.ntmps49
    go_wp2_with fail
    go_ret
    exact ⟨rfl, rfl⟩

theorem listedB_two (c : Cl) (h : c.kind = 8 ∨ c.kind = 11) : listedB c = (c.reqs.length == 1) := by unfold listedB; rw [if_pos h]
theorem listedB_else (c : Cl) (h : ¬ (c.kind = 8 ∨ c.kind = 11)) : listedB c = (decide (1 ≤ c.reqs.length) && decide (c.reqs.length ≤ 8)) := by unfold listedB; rw [if_neg h]

set_option maxHeartbeats 4000000 in
set_option maxRecDepth 100000 in
theorem listed_any (c : Cl) (A : Option Addr) (cap : Nat) (w : World) : Calls Tryd.prog 19 #[.agg (clCells c A cap)] w fun e w' => e = .returned (.bool (listedB c)) ∧ Below w.heap.size w w' := by
  have hb1 : Below w.heap.size w (w.alloc (.cells (clCells c A cap) 29)) := (Below.refl _ _).alloc (Nat.le_refl _) _
  have hX : ClAt (w.alloc (.cells (clCells c A cap) 29)) w.heap.size c A cap := ClBlk.new.at
  have HB := Lib.hid hb1
  have h0 := hX.g0
  have h8 := hX.g8
  clear hb1 hX
  have HI1 := Lib.hid (fun w => in_any (c.reqs.length : Int) 1 1 w)
  have HI8 := Lib.hid (fun w => in_any (c.reqs.length : Int) 1 8 w)
  by_cases hk : c.kind = 8 ∨ c.kind = 11
  · have HL := Lib.hid (show listedB c = inC c.reqs.length 1 1 by
      rw [listedB_two c hk, Bool.eq_iff_iff]
      simp [inC]
      omega)
    go_enter Tryd.func19, Tryd.ntmps19
    go_upto_region 1 with fail
    generalize w.alloc (.cells (clCells c A cap) 29) = w1 at *
    have e8 : (c.kind == 8) = true ∨ ((c.kind == 8) = false ∧ (c.kind == 11) = true) := by
      simp
      omega
    clear hk
    generalize c.kind = kd at *
    rcases e8 with e8 | ⟨e8, e11⟩
    all_goals
      go_wp2_with (with_reducible refine (HI1.out _).mono ?_; rintro e w1 ⟨rfl, rfl⟩)
      go_ret
      exact ⟨ret_bool HL.out.symm, HB.out⟩
  · have HL := Lib.hid (show listedB c = inC c.reqs.length 1 8 by
      rw [listedB_else c hk, Bool.eq_iff_iff]
      simp [inC]
      omega)
    have e8 : (c.kind == 8) = false := by simp; omega
    have e11 : (c.kind == 11) = false := by simp; omega
    clear hk
    go_enter Tryd.func19, Tryd.ntmps19
    go_upto_region 1 with fail
    generalize w.alloc (.cells (clCells c A cap) 29) = w1 at *
    generalize c.kind = kd at *
    go_wp2_with (with_reducible refine (HI8.out _).mono ?_; rintro e w1 ⟨rfl, rfl⟩)
    go_ret
    exact ⟨ret_bool HL.out.symm, HB.out⟩

set_option maxHeartbeats 4000000 in
set_option maxRecDepth 100000 in
theorem many_any16 (c : Cl) (A : Option Addr) (cap : Nat) (w : World) : Calls Tryd.prog 25 #[.agg (clCells c A cap)] w fun e w' => e = .returned (.bool (listedB c)) ∧ Below w.heap.size w w' := by
  have hb1 : Below w.heap.size w (w.alloc (.cells (clCells c A cap) 29)) := (Below.refl _ _).alloc (Nat.le_refl _) _
  have hX : ClAt (w.alloc (.cells (clCells c A cap) 29)) w.heap.size c A cap := ClBlk.new.at
  have HB := Lib.hid hb1
  have h0 := hX.g0
  have h8 := hX.g8
  clear hb1 hX
  by_cases hk : c.kind = 8 ∨ c.kind = 11
  · have HL := Lib.hid (listedB_two c hk)
    go_enter Tryd.func25, Tryd.ntmps25
    go_upto_region 1 with fail
    generalize w.alloc (.cells (clCells c A cap) 29) = w1 at *
    have e8 : (c.kind == 8) = true ∨ ((c.kind == 8) = false ∧ (c.kind == 11) = true) := by
      simp
      omega
    clear hk
    generalize c.kind = kd at *
    rcases e8 with e8 | ⟨e8, e11⟩
    all_goals
      go_wp2_with fail
      go_ret
      exact ⟨ret_bool (by rw [HL.out, Bool.eq_iff_iff]; simp; try omega), HB.out⟩
  · have HL := Lib.hid (listedB_else c hk)
    have e8 : (c.kind == 8) = false := by simp; omega
    have e11 : (c.kind == 11) = false := by simp; omega
    clear hk
    go_enter Tryd.func25, Tryd.ntmps25
    go_upto_region 1 with fail
    generalize w.alloc (.cells (clCells c A cap) 29) = w1 at *
    generalize c.kind = kd at *
    by_cases h1 : 1 ≤ c.reqs.length
    · have hd : decide ((1 : Int) ≤ (c.reqs.length : Int)) = true := by simp; omega
      go_wp2_with fail
      go_ret
      exact ⟨ret_bool (by rw [HL.out, Bool.eq_iff_iff]; simp; omega), HB.out⟩
    · have hd : decide ((1 : Int) ≤ (c.reqs.length : Int)) = false := by simp; omega
      go_wp2_with fail
      go_ret
      exact ⟨ret_bool (by rw [HL.out, Bool.eq_iff_iff]; simp; omega), HB.out⟩
end Go.Proofs.YtgphigpbgiceiaaDoor
