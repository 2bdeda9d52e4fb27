/- Whether a call may be, plainly; the walks of call.in, call.open, call.listed, call.Decides and of the reference's Decides, many. -/
import Derived.Test.YtgphigpbgiceiaaGreatDoorReqsP
import Derived.Test.YtgphigpbgiceiaaGreatDoorCl
namespace Go.Proofs.YtgphigpbgiceiaaGreatDoor
open Go.RowKit Go.Sort
set_option linter.unusedVariables false
set_option linter.unusedSimpArgs false

def openK (k : Int) : Bool := k == 6 || k == 7 || k == 13 || k == 14
def anyK (k : Int) : Int := if openK k = true then -1 else 0
def inC (n a b : Int) : Bool := decide (a ≤ n) && decide (n ≤ b)
def listedB (c : Cl) : Bool := if c.kind = 8 ∨ c.kind = 11 then c.reqs.length == 1 else decide (1 ≤ c.reqs.length) && decide (c.reqs.length ≤ 8)
def fieldB (c : Cl) (last : Int) (f : Int) : Bool :=
  if f = 0 then inC c.comm 0 31 else if f = 1 then inC c.peer (anyK c.kind) last else if f = 2 then inC c.tag (anyK c.kind) 32767 else if f = 4 then inC c.size 1 64
  else if f = 5 then inC c.root 0 last else if f = 9 then decide (c.op ≤ 2) else if f = 8 then listedB c && okReqs c.reqs else true
def groupB (l : List Int) : Bool := (l.all fun n => decide (0 ≤ n) && decide (n < 64)) && decide l.Nodup && decide (0 < l.length)
/-- Whether a call may be on a group of these ranks. -/
def mayB (c : Cl) (g : List Int) (l : Option (List Int)) : Bool := l.isSome && groupB g && (l.getD []).all (fieldB c (g.length - 1))
def decB (c : Cl) : Bool := (c.kind == 10 || c.kind == 11 || c.kind == 12 || c.kind == 14) || openK c.kind && c.peer == -1

set_option maxHeartbeats 2000000 in
theorem in_any (n a b : Int) (w : World) : Calls Tryz.prog 30 #[.int .i64 n, .int .i64 a, .int .i64 b] w fun e w' => e = .returned (.bool (inC n a b)) ∧ w' = w := by
  obtain ⟨x, hx⟩ : ∃ x, decide (a ≤ n) = x := ⟨_, rfl⟩
  unfold inC
  rw [hx]
  cases x
  all_goals
    go_enter Tryz.func30, Tryz.ntmps30
    go_wp2_with fail
    go_ret
    exact ⟨rfl, rfl⟩

set_option maxHeartbeats 2000000 in
theorem open_any (k : Int) (w : World) : Calls Tryz.prog 29 #[.int .u8 k] w fun e w' => e = .returned (.bool (openK k)) ∧ w' = w := by
  unfold openK
  obtain ⟨a, ha⟩ : ∃ x, (k == 6) = x := ⟨_, rfl⟩
  obtain ⟨b, hb⟩ : ∃ x, (k == 7) = x := ⟨_, rfl⟩
  obtain ⟨c, hc⟩ : ∃ x, (k == 13) = x := ⟨_, rfl⟩
  obtain ⟨d, hd⟩ : ∃ x, (k == 14) = x := ⟨_, rfl⟩
  rw [ha, hb, hc, hd]
  cases a
  all_goals cases b
  all_goals cases c
  all_goals
    go_enter Tryz.func29, Tryz.ntmps29
    go_wp2_with fail
    go_ret
    exact ⟨rfl, rfl⟩

set_option maxHeartbeats 4000000 in
set_option maxRecDepth 100000 in
theorem decides_any (c : Cl) (A : Option Addr) (cap : Nat) (w : World) : Calls Tryz.prog 12 #[.agg (clCells c A cap)] w fun e w' => e = .returned (.bool (decB c)) ∧ Below w.heap.size w w' := by
  have hb1 : Below w.heap.size w (w.alloc (.cells (clCells c A cap) 24)) := (Below.refl _ _).alloc (Nat.le_refl _) _
  have hX : ClAt (w.alloc (.cells (clCells c A cap) 24)) w.heap.size c A cap := ClBlk.new.at
  have HB := Lib.hid hb1
  have h0 := hX.g0
  have h2 := hX.g2
  have HO := Lib.hid (fun w => open_any c.kind w)
  clear hb1 hX
  obtain ⟨r, hr⟩ : ∃ r, decB c = r := ⟨_, rfl⟩
  rw [hr]
  have HR := Lib.hid hr
  unfold decB at HR
  obtain ⟨o, ho⟩ : ∃ x, openK c.kind = x := ⟨_, rfl⟩
  rw [ho] at HR HO
  obtain ⟨x1, e1⟩ : ∃ x, (c.kind == 10) = x := ⟨_, rfl⟩
  obtain ⟨x2, e2⟩ : ∃ x, (c.kind == 11) = x := ⟨_, rfl⟩
  obtain ⟨x3, e3⟩ : ∃ x, (c.kind == 12) = x := ⟨_, rfl⟩
  obtain ⟨x4, e4⟩ : ∃ x, (c.kind == 14) = x := ⟨_, rfl⟩
  obtain ⟨x5, e5⟩ : ∃ x, (c.peer == -1) = x := ⟨_, rfl⟩
  rw [e1, e2, e3, e4, e5] at HR
  clear hr ho
  go_enter Tryz.func12, Tryz.ntmps12
  go_upto_region 1 with fail
  generalize w.alloc (.cells (clCells c A cap) 24) = w1 at *
  generalize c.kind = kd at *
  generalize c.peer = pe at *
  cases x1
  case true =>
    go_wp2_with fail
    go_ret
    exact ⟨ret_bool (by rw [← HR.out]; rfl), HB.out⟩
  cases x2
  case true =>
    go_wp2_with fail
    go_ret
    exact ⟨ret_bool (by rw [← HR.out]; rfl), HB.out⟩
  cases x3
  case true =>
    go_wp2_with fail
    go_ret
    exact ⟨ret_bool (by rw [← HR.out]; rfl), HB.out⟩
  cases x4
  case true =>
    go_wp2_with fail
    go_ret
    exact ⟨ret_bool (by rw [← HR.out]; rfl), HB.out⟩
  cases o
  all_goals
    go_wp2_with (with_reducible refine (HO.out _).mono ?_; rintro e w1 ⟨rfl, rfl⟩)
    go_ret
    exact ⟨ret_bool (by rw [← HR.out]; rfl), HB.out⟩

theorem listedB_two (c : Cl) (h : c.kind = 8 ∨ c.kind = 11) : listedB c = (c.reqs.length == 1) := by unfold listedB; rw [if_pos h]
theorem listedB_else (c : Cl) (h : ¬ (c.kind = 8 ∨ c.kind = 11)) : listedB c = (decide (1 ≤ c.reqs.length) && decide (c.reqs.length ≤ 8)) := by unfold listedB; rw [if_neg h]

set_option maxHeartbeats 4000000 in
set_option maxRecDepth 100000 in
theorem listed_any (c : Cl) (A : Option Addr) (cap : Nat) (w : World) : Calls Tryz.prog 18 #[.agg (clCells c A cap)] w fun e w' => e = .returned (.bool (listedB c)) ∧ Below w.heap.size w w' := by
  have hb1 : Below w.heap.size w (w.alloc (.cells (clCells c A cap) 24)) := (Below.refl _ _).alloc (Nat.le_refl _) _
  have hX : ClAt (w.alloc (.cells (clCells c A cap) 24)) w.heap.size c A cap := ClBlk.new.at
  have HB := Lib.hid hb1
  have h0 := hX.g0
  have h8 := hX.g8
  clear hb1 hX
  have HI1 := Lib.hid (fun w => in_any (c.reqs.length : Int) 1 1 w)
  have HI8 := Lib.hid (fun w => in_any (c.reqs.length : Int) 1 8 w)
  by_cases hk : c.kind = 8 ∨ c.kind = 11
  · have HL := Lib.hid (show listedB c = inC c.reqs.length 1 1 by
      rw [listedB_two c hk, Bool.eq_iff_iff]
      simp [inC]
      omega)
    go_enter Tryz.func18, Tryz.ntmps18
    go_upto_region 1 with fail
    generalize w.alloc (.cells (clCells c A cap) 24) = w1 at *
    have e8 : (c.kind == 8) = true ∨ ((c.kind == 8) = false ∧ (c.kind == 11) = true) := by
      simp
      omega
    clear hk
    generalize c.kind = kd at *
    rcases e8 with e8 | ⟨e8, e11⟩
    all_goals
      go_wp2_with (with_reducible refine (HI1.out _).mono ?_; rintro e w1 ⟨rfl, rfl⟩)
      go_ret
      exact ⟨ret_bool HL.out.symm, HB.out⟩
  · have HL := Lib.hid (show listedB c = inC c.reqs.length 1 8 by
      rw [listedB_else c hk, Bool.eq_iff_iff]
      simp [inC]
      omega)
    have e8 : (c.kind == 8) = false := by simp; omega
    have e11 : (c.kind == 11) = false := by simp; omega
    clear hk
    go_enter Tryz.func18, Tryz.ntmps18
    go_upto_region 1 with fail
    generalize w.alloc (.cells (clCells c A cap) 24) = w1 at *
    generalize c.kind = kd at *
    go_wp2_with (with_reducible refine (HI8.out _).mono ?_; rintro e w1 ⟨rfl, rfl⟩)
    go_ret
    exact ⟨ret_bool HL.out.symm, HB.out⟩

end Go.Proofs.YtgphigpbgiceiaaGreatDoor
