/- The walk of dispatcherref01.Of. Printed by gen_of.py. -/
import Derived.Test.YtjfoinikdifgmaaDoorRefScan1
import Derived.Laws.Rows
import Derived.Laws.IdiomRangeMap
namespace Go.Proofs.YtjfoinikdifgmaaDoor
open Go.RowKit
set_option linter.unusedVariables false

theorem tokBlk_far {w : World} {b : Nat} {t : Tok} (h : TokBlk w b t) (i : Nat) (u : Value) : TokBlk (w.setCell ⟨b + 1, i, none⟩ u) b t := (Below.heap_setCell w ⟨b + 1, i, none⟩ u b (by simp)).trans h

set_option maxHeartbeats 2000000 in
set_option maxRecDepth 100000 in
theorem of_word (s : ByteArray) (w : World) (nv : Int) (bn : Bool) (wn wg : Bool)
    (HN : Hid (∀ w, Calls Tryd.prog 45 #[.string s] w fun e w' => e = .returned (.tuple #[.int .i64 nv, .bool bn]) ∧ w' = w))
    (HW : Hid (∀ w, Calls Tryd.prog 15 #[.string s] w fun e w' => e = .returned (.bool true) ∧ Below w.heap.size w w'))
    (HM : Hid (∀ w, Calls Tryd.prog 19 #[.string s] w fun e w' => e = .returned (.bool wn) ∧ Below w.heap.size w w'))
    (HG : Hid (∀ w, Calls Tryd.prog 17 #[.string s] w fun e w' => e = .returned (.bool wg) ∧ w' = w)) :
    Calls Tryd.prog 36 #[.string s] w (OfPost ⟨3, s, 0, 0, 0⟩ w) := by
    go_enter Tryd.func36, Tryd.ntmps36
    go_wp2_with fail
    have t2 : TokBlk ((w.alloc (Obj.cells #[Value.int IntKind.u8 0, Value.string ⟨#[]⟩, Value.int IntKind.i64 0, Value.int IntKind.i64 0, Value.int IntKind.i64 0] 36)).alloc (Obj.cells #[Value.int IntKind.u8 0, Value.string s, Value.int IntKind.i64 0, Value.int IntKind.i64 0, Value.int IntKind.i64 0] 36)) w.heap.size ⟨0, .empty, 0, 0, 0⟩ := (heap_alloc_old _ _ (by simp)).trans (TokBlk.new w ⟨0, .empty, 0, 0, 0⟩)
    have t3 : TokBlk ((w.alloc (Obj.cells #[Value.int IntKind.u8 0, Value.string ⟨#[]⟩, Value.int IntKind.i64 0, Value.int IntKind.i64 0, Value.int IntKind.i64 0] 36)).alloc (Obj.cells #[Value.int IntKind.u8 0, Value.string s, Value.int IntKind.i64 0, Value.int IntKind.i64 0, Value.int IntKind.i64 0] 36)) (w.heap.size + 1) ⟨0, s, 0, 0, 0⟩ := by
      have h := TokBlk.new (w.alloc (Obj.cells #[Value.int IntKind.u8 0, Value.string ⟨#[]⟩, Value.int IntKind.i64 0, Value.int IntKind.i64 0, Value.int IntKind.i64 0] 36)) ⟨0, s, 0, 0, 0⟩
      simpa using h
    have hbw : Below w.heap.size w ((w.alloc (Obj.cells #[Value.int IntKind.u8 0, Value.string ⟨#[]⟩, Value.int IntKind.i64 0, Value.int IntKind.i64 0, Value.int IntKind.i64 0] 36)).alloc (Obj.cells #[Value.int IntKind.u8 0, Value.string s, Value.int IntKind.i64 0, Value.int IntKind.i64 0, Value.int IntKind.i64 0] 36)) := ((Below.refl w.heap.size w).alloc (Nat.le_refl _) _).alloc (by simp) _
    generalize (w.alloc (Obj.cells #[Value.int IntKind.u8 0, Value.string ⟨#[]⟩, Value.int IntKind.i64 0, Value.int IntKind.i64 0, Value.int IntKind.i64 0] 36)).alloc (Obj.cells #[Value.int IntKind.u8 0, Value.string s, Value.int IntKind.i64 0, Value.int IntKind.i64 0, Value.int IntKind.i64 0] 36) = w1 at *
    refine (HN.out _).mono ?_
    rintro e w0 ⟨rfl, rfl⟩
    go_wp2_with fail
    refine (HW.out _).mono ?_
    rintro e wa ⟨rfl, hb⟩
    have t2 := t2.below hb
    have t3 := t3.below hb
    have hbw := hbw.trans (hb.mono hbw.size)
    clear hb
    have p0 := t2.c0
    have q0 := t3.c0
    have f0 := t2.f 0
    have g0 := t3.f 0
    have p1 := t2.c1
    have q1 := t3.c1
    have f1 := t2.f 1
    have g1 := t3.f 1
    have p2 := t2.c2
    have q2 := t3.c2
    have f2 := t2.f 2
    have g2 := t3.f 2
    have p3 := t2.c3
    have q3 := t3.c3
    have f3 := t2.f 3
    have g3 := t3.f 3
    have p4 := t2.c4
    have q4 := t3.c4
    have f4 := t2.f 4
    have g4 := t3.f 4
    simp only at p0 p1 p2 p3 p4 q0 q1 q2 q3 q4
    go_wp2_with fail
    have hend : TokBlk _ w.heap.size ⟨3, s, 0, 0, 0⟩ := (((((tokBlk_far t2 0 (.int .u8 3)).set0 _).set1 _).set2 _).set3 _).set4 _
    refine bodyPost_ret (results_cell_row (p := 2) (ty := 36) rfl _ _ w.heap.size _ _ _ _ rfl hend Tryd.underlying36 rfl (by kernel_rfl)) rfl ⟨rfl, ?_⟩
    exact ((((((hbw.setCell (p := ⟨_, 0, none⟩) (Nat.le_succ _) _).setCell (p := ⟨_, 0, none⟩) (Nat.le_refl _) _).setCell (p := ⟨_, 1, none⟩) (Nat.le_refl _) _).setCell (p := ⟨_, 2, none⟩) (Nat.le_refl _) _).setCell (p := ⟨_, 3, none⟩) (Nat.le_refl _) _).setCell (p := ⟨_, 4, none⟩) (Nat.le_refl _) _)

set_option maxHeartbeats 2000000 in
set_option maxRecDepth 100000 in
theorem of_name (s : ByteArray) (w : World) (nv : Int) (bn : Bool) (wg : Bool)
    (HN : Hid (∀ w, Calls Tryd.prog 45 #[.string s] w fun e w' => e = .returned (.tuple #[.int .i64 nv, .bool bn]) ∧ w' = w))
    (HW : Hid (∀ w, Calls Tryd.prog 15 #[.string s] w fun e w' => e = .returned (.bool false) ∧ Below w.heap.size w w'))
    (HM : Hid (∀ w, Calls Tryd.prog 19 #[.string s] w fun e w' => e = .returned (.bool true) ∧ Below w.heap.size w w'))
    (HG : Hid (∀ w, Calls Tryd.prog 17 #[.string s] w fun e w' => e = .returned (.bool wg) ∧ w' = w)) :
    Calls Tryd.prog 36 #[.string s] w (OfPost ⟨1, s, 0, 0, 0⟩ w) := by
    go_enter Tryd.func36, Tryd.ntmps36
    go_wp2_with fail
    have t2 : TokBlk ((w.alloc (Obj.cells #[Value.int IntKind.u8 0, Value.string ⟨#[]⟩, Value.int IntKind.i64 0, Value.int IntKind.i64 0, Value.int IntKind.i64 0] 36)).alloc (Obj.cells #[Value.int IntKind.u8 0, Value.string s, Value.int IntKind.i64 0, Value.int IntKind.i64 0, Value.int IntKind.i64 0] 36)) w.heap.size ⟨0, .empty, 0, 0, 0⟩ := (heap_alloc_old _ _ (by simp)).trans (TokBlk.new w ⟨0, .empty, 0, 0, 0⟩)
    have t3 : TokBlk ((w.alloc (Obj.cells #[Value.int IntKind.u8 0, Value.string ⟨#[]⟩, Value.int IntKind.i64 0, Value.int IntKind.i64 0, Value.int IntKind.i64 0] 36)).alloc (Obj.cells #[Value.int IntKind.u8 0, Value.string s, Value.int IntKind.i64 0, Value.int IntKind.i64 0, Value.int IntKind.i64 0] 36)) (w.heap.size + 1) ⟨0, s, 0, 0, 0⟩ := by
      have h := TokBlk.new (w.alloc (Obj.cells #[Value.int IntKind.u8 0, Value.string ⟨#[]⟩, Value.int IntKind.i64 0, Value.int IntKind.i64 0, Value.int IntKind.i64 0] 36)) ⟨0, s, 0, 0, 0⟩
      simpa using h
    have hbw : Below w.heap.size w ((w.alloc (Obj.cells #[Value.int IntKind.u8 0, Value.string ⟨#[]⟩, Value.int IntKind.i64 0, Value.int IntKind.i64 0, Value.int IntKind.i64 0] 36)).alloc (Obj.cells #[Value.int IntKind.u8 0, Value.string s, Value.int IntKind.i64 0, Value.int IntKind.i64 0, Value.int IntKind.i64 0] 36)) := ((Below.refl w.heap.size w).alloc (Nat.le_refl _) _).alloc (by simp) _
    generalize (w.alloc (Obj.cells #[Value.int IntKind.u8 0, Value.string ⟨#[]⟩, Value.int IntKind.i64 0, Value.int IntKind.i64 0, Value.int IntKind.i64 0] 36)).alloc (Obj.cells #[Value.int IntKind.u8 0, Value.string s, Value.int IntKind.i64 0, Value.int IntKind.i64 0, Value.int IntKind.i64 0] 36) = w1 at *
    refine (HN.out _).mono ?_
    rintro e w0 ⟨rfl, rfl⟩
    go_wp2_with fail
    refine (HW.out _).mono ?_
    rintro e wa ⟨rfl, hb⟩
    have t2 := t2.below hb
    have t3 := t3.below hb
    have hbw := hbw.trans (hb.mono hbw.size)
    clear hb
    go_wp2_with fail
    refine (HM.out _).mono ?_
    rintro e wb ⟨rfl, hb⟩
    have t2 := t2.below hb
    have t3 := t3.below hb
    have hbw := hbw.trans (hb.mono hbw.size)
    clear hb
    have p0 := t2.c0
    have q0 := t3.c0
    have f0 := t2.f 0
    have g0 := t3.f 0
    have p1 := t2.c1
    have q1 := t3.c1
    have f1 := t2.f 1
    have g1 := t3.f 1
    have p2 := t2.c2
    have q2 := t3.c2
    have f2 := t2.f 2
    have g2 := t3.f 2
    have p3 := t2.c3
    have q3 := t3.c3
    have f3 := t2.f 3
    have g3 := t3.f 3
    have p4 := t2.c4
    have q4 := t3.c4
    have f4 := t2.f 4
    have g4 := t3.f 4
    simp only at p0 p1 p2 p3 p4 q0 q1 q2 q3 q4
    go_wp2_with fail
    have hend : TokBlk _ w.heap.size ⟨1, s, 0, 0, 0⟩ := (((((tokBlk_far t2 0 (.int .u8 1)).set0 _).set1 _).set2 _).set3 _).set4 _
    refine bodyPost_ret (results_cell_row (p := 2) (ty := 36) rfl _ _ w.heap.size _ _ _ _ rfl hend Tryd.underlying36 rfl (by kernel_rfl)) rfl ⟨rfl, ?_⟩
    exact ((((((hbw.setCell (p := ⟨_, 0, none⟩) (Nat.le_succ _) _).setCell (p := ⟨_, 0, none⟩) (Nat.le_refl _) _).setCell (p := ⟨_, 1, none⟩) (Nat.le_refl _) _).setCell (p := ⟨_, 2, none⟩) (Nat.le_refl _) _).setCell (p := ⟨_, 3, none⟩) (Nat.le_refl _) _).setCell (p := ⟨_, 4, none⟩) (Nat.le_refl _) _)

set_option maxHeartbeats 2000000 in
set_option maxRecDepth 100000 in
theorem of_num (s : ByteArray) (w : World) (nv : Int) (bn : Bool) (hbn : bn = true) (wg : Bool)
    (HN : Hid (∀ w, Calls Tryd.prog 45 #[.string s] w fun e w' => e = .returned (.tuple #[.int .i64 nv, .bool bn]) ∧ w' = w))
    (HW : Hid (∀ w, Calls Tryd.prog 15 #[.string s] w fun e w' => e = .returned (.bool false) ∧ Below w.heap.size w w'))
    (HM : Hid (∀ w, Calls Tryd.prog 19 #[.string s] w fun e w' => e = .returned (.bool false) ∧ Below w.heap.size w w'))
    (HG : Hid (∀ w, Calls Tryd.prog 17 #[.string s] w fun e w' => e = .returned (.bool wg) ∧ w' = w)) :
    Calls Tryd.prog 36 #[.string s] w (OfPost ⟨2, s, nv, 0, 0⟩ w) := by
    subst hbn
    go_enter Tryd.func36, Tryd.ntmps36
    go_wp2_with fail
    have t2 : TokBlk ((w.alloc (Obj.cells #[Value.int IntKind.u8 0, Value.string ⟨#[]⟩, Value.int IntKind.i64 0, Value.int IntKind.i64 0, Value.int IntKind.i64 0] 36)).alloc (Obj.cells #[Value.int IntKind.u8 0, Value.string s, Value.int IntKind.i64 0, Value.int IntKind.i64 0, Value.int IntKind.i64 0] 36)) w.heap.size ⟨0, .empty, 0, 0, 0⟩ := (heap_alloc_old _ _ (by simp)).trans (TokBlk.new w ⟨0, .empty, 0, 0, 0⟩)
    have t3 : TokBlk ((w.alloc (Obj.cells #[Value.int IntKind.u8 0, Value.string ⟨#[]⟩, Value.int IntKind.i64 0, Value.int IntKind.i64 0, Value.int IntKind.i64 0] 36)).alloc (Obj.cells #[Value.int IntKind.u8 0, Value.string s, Value.int IntKind.i64 0, Value.int IntKind.i64 0, Value.int IntKind.i64 0] 36)) (w.heap.size + 1) ⟨0, s, 0, 0, 0⟩ := by
      have h := TokBlk.new (w.alloc (Obj.cells #[Value.int IntKind.u8 0, Value.string ⟨#[]⟩, Value.int IntKind.i64 0, Value.int IntKind.i64 0, Value.int IntKind.i64 0] 36)) ⟨0, s, 0, 0, 0⟩
      simpa using h
    have hbw : Below w.heap.size w ((w.alloc (Obj.cells #[Value.int IntKind.u8 0, Value.string ⟨#[]⟩, Value.int IntKind.i64 0, Value.int IntKind.i64 0, Value.int IntKind.i64 0] 36)).alloc (Obj.cells #[Value.int IntKind.u8 0, Value.string s, Value.int IntKind.i64 0, Value.int IntKind.i64 0, Value.int IntKind.i64 0] 36)) := ((Below.refl w.heap.size w).alloc (Nat.le_refl _) _).alloc (by simp) _
    generalize (w.alloc (Obj.cells #[Value.int IntKind.u8 0, Value.string ⟨#[]⟩, Value.int IntKind.i64 0, Value.int IntKind.i64 0, Value.int IntKind.i64 0] 36)).alloc (Obj.cells #[Value.int IntKind.u8 0, Value.string s, Value.int IntKind.i64 0, Value.int IntKind.i64 0, Value.int IntKind.i64 0] 36) = w1 at *
    refine (HN.out _).mono ?_
    rintro e w0 ⟨rfl, rfl⟩
    go_wp2_with fail
    refine (HW.out _).mono ?_
    rintro e wa ⟨rfl, hb⟩
    have t2 := t2.below hb
    have t3 := t3.below hb
    have hbw := hbw.trans (hb.mono hbw.size)
    clear hb
    go_wp2_with fail
    refine (HM.out _).mono ?_
    rintro e wb ⟨rfl, hb⟩
    have t2 := t2.below hb
    have t3 := t3.below hb
    have hbw := hbw.trans (hb.mono hbw.size)
    clear hb
    have p0 := t2.c0
    have q0 := t3.c0
    have f0 := t2.f 0
    have g0 := t3.f 0
    have p1 := t2.c1
    have q1 := t3.c1
    have f1 := t2.f 1
    have g1 := t3.f 1
    have p2 := t2.c2
    have q2 := t3.c2
    have f2 := t2.f 2
    have g2 := t3.f 2
    have p3 := t2.c3
    have q3 := t3.c3
    have f3 := t2.f 3
    have g3 := t3.f 3
    have p4 := t2.c4
    have q4 := t3.c4
    have f4 := t2.f 4
    have g4 := t3.f 4
    simp only at p0 p1 p2 p3 p4 q0 q1 q2 q3 q4
    go_wp2_with fail
    have hend : TokBlk _ w.heap.size ⟨2, s, nv, 0, 0⟩ := (((((tokBlk_far (tokBlk_far t2 0 (.int .u8 2)) 2 (.int .i64 nv)).set0 _).set1 _).set2 _).set3 _).set4 _
    refine bodyPost_ret (results_cell_row (p := 2) (ty := 36) rfl _ _ w.heap.size _ _ _ _ rfl hend Tryd.underlying36 rfl (by kernel_rfl)) rfl ⟨rfl, ?_⟩
    exact (((((((hbw.setCell (p := ⟨_, 0, none⟩) (Nat.le_succ _) _).setCell (p := ⟨_, 2, none⟩) (Nat.le_succ _) _).setCell (p := ⟨_, 0, none⟩) (Nat.le_refl _) _).setCell (p := ⟨_, 1, none⟩) (Nat.le_refl _) _).setCell (p := ⟨_, 2, none⟩) (Nat.le_refl _) _).setCell (p := ⟨_, 3, none⟩) (Nat.le_refl _) _).setCell (p := ⟨_, 4, none⟩) (Nat.le_refl _) _)

set_option maxHeartbeats 2000000 in
set_option maxRecDepth 100000 in
theorem of_sign (s : ByteArray) (w : World) (nv : Int) (bn : Bool) (hbn : bn = false)
    (HN : Hid (∀ w, Calls Tryd.prog 45 #[.string s] w fun e w' => e = .returned (.tuple #[.int .i64 nv, .bool bn]) ∧ w' = w))
    (HW : Hid (∀ w, Calls Tryd.prog 15 #[.string s] w fun e w' => e = .returned (.bool false) ∧ Below w.heap.size w w'))
    (HM : Hid (∀ w, Calls Tryd.prog 19 #[.string s] w fun e w' => e = .returned (.bool false) ∧ Below w.heap.size w w'))
    (HG : Hid (∀ w, Calls Tryd.prog 17 #[.string s] w fun e w' => e = .returned (.bool true) ∧ w' = w)) :
    Calls Tryd.prog 36 #[.string s] w (OfPost ⟨4, s, 0, 0, 0⟩ w) := by
    subst hbn
    go_enter Tryd.func36, Tryd.ntmps36
    go_wp2_with fail
    have t2 : TokBlk ((w.alloc (Obj.cells #[Value.int IntKind.u8 0, Value.string ⟨#[]⟩, Value.int IntKind.i64 0, Value.int IntKind.i64 0, Value.int IntKind.i64 0] 36)).alloc (Obj.cells #[Value.int IntKind.u8 0, Value.string s, Value.int IntKind.i64 0, Value.int IntKind.i64 0, Value.int IntKind.i64 0] 36)) w.heap.size ⟨0, .empty, 0, 0, 0⟩ := (heap_alloc_old _ _ (by simp)).trans (TokBlk.new w ⟨0, .empty, 0, 0, 0⟩)
    have t3 : TokBlk ((w.alloc (Obj.cells #[Value.int IntKind.u8 0, Value.string ⟨#[]⟩, Value.int IntKind.i64 0, Value.int IntKind.i64 0, Value.int IntKind.i64 0] 36)).alloc (Obj.cells #[Value.int IntKind.u8 0, Value.string s, Value.int IntKind.i64 0, Value.int IntKind.i64 0, Value.int IntKind.i64 0] 36)) (w.heap.size + 1) ⟨0, s, 0, 0, 0⟩ := by
      have h := TokBlk.new (w.alloc (Obj.cells #[Value.int IntKind.u8 0, Value.string ⟨#[]⟩, Value.int IntKind.i64 0, Value.int IntKind.i64 0, Value.int IntKind.i64 0] 36)) ⟨0, s, 0, 0, 0⟩
      simpa using h
    have hbw : Below w.heap.size w ((w.alloc (Obj.cells #[Value.int IntKind.u8 0, Value.string ⟨#[]⟩, Value.int IntKind.i64 0, Value.int IntKind.i64 0, Value.int IntKind.i64 0] 36)).alloc (Obj.cells #[Value.int IntKind.u8 0, Value.string s, Value.int IntKind.i64 0, Value.int IntKind.i64 0, Value.int IntKind.i64 0] 36)) := ((Below.refl w.heap.size w).alloc (Nat.le_refl _) _).alloc (by simp) _
    generalize (w.alloc (Obj.cells #[Value.int IntKind.u8 0, Value.string ⟨#[]⟩, Value.int IntKind.i64 0, Value.int IntKind.i64 0, Value.int IntKind.i64 0] 36)).alloc (Obj.cells #[Value.int IntKind.u8 0, Value.string s, Value.int IntKind.i64 0, Value.int IntKind.i64 0, Value.int IntKind.i64 0] 36) = w1 at *
    refine (HN.out _).mono ?_
    rintro e w0 ⟨rfl, rfl⟩
    go_wp2_with fail
    refine (HW.out _).mono ?_
    rintro e wa ⟨rfl, hb⟩
    have t2 := t2.below hb
    have t3 := t3.below hb
    have hbw := hbw.trans (hb.mono hbw.size)
    clear hb
    go_wp2_with fail
    refine (HM.out _).mono ?_
    rintro e wb ⟨rfl, hb⟩
    have t2 := t2.below hb
    have t3 := t3.below hb
    have hbw := hbw.trans (hb.mono hbw.size)
    clear hb
    go_wp2_with fail
    refine (HG.out _).mono ?_
    rintro e wc ⟨rfl, rfl⟩
    have p0 := t2.c0
    have q0 := t3.c0
    have f0 := t2.f 0
    have g0 := t3.f 0
    have p1 := t2.c1
    have q1 := t3.c1
    have f1 := t2.f 1
    have g1 := t3.f 1
    have p2 := t2.c2
    have q2 := t3.c2
    have f2 := t2.f 2
    have g2 := t3.f 2
    have p3 := t2.c3
    have q3 := t3.c3
    have f3 := t2.f 3
    have g3 := t3.f 3
    have p4 := t2.c4
    have q4 := t3.c4
    have f4 := t2.f 4
    have g4 := t3.f 4
    simp only at p0 p1 p2 p3 p4 q0 q1 q2 q3 q4
    go_wp2_with fail
    have hend : TokBlk _ w.heap.size ⟨4, s, 0, 0, 0⟩ := (((((tokBlk_far t2 0 (.int .u8 4)).set0 _).set1 _).set2 _).set3 _).set4 _
    refine bodyPost_ret (results_cell_row (p := 2) (ty := 36) rfl _ _ w.heap.size _ _ _ _ rfl hend Tryd.underlying36 rfl (by kernel_rfl)) rfl ⟨rfl, ?_⟩
    exact ((((((hbw.setCell (p := ⟨_, 0, none⟩) (Nat.le_succ _) _).setCell (p := ⟨_, 0, none⟩) (Nat.le_refl _) _).setCell (p := ⟨_, 1, none⟩) (Nat.le_refl _) _).setCell (p := ⟨_, 2, none⟩) (Nat.le_refl _) _).setCell (p := ⟨_, 3, none⟩) (Nat.le_refl _) _).setCell (p := ⟨_, 4, none⟩) (Nat.le_refl _) _)

set_option maxHeartbeats 2000000 in
set_option maxRecDepth 100000 in
theorem of_none (s : ByteArray) (w : World) (nv : Int) (bn : Bool) (hbn : bn = false)
    (HN : Hid (∀ w, Calls Tryd.prog 45 #[.string s] w fun e w' => e = .returned (.tuple #[.int .i64 nv, .bool bn]) ∧ w' = w))
    (HW : Hid (∀ w, Calls Tryd.prog 15 #[.string s] w fun e w' => e = .returned (.bool false) ∧ Below w.heap.size w w'))
    (HM : Hid (∀ w, Calls Tryd.prog 19 #[.string s] w fun e w' => e = .returned (.bool false) ∧ Below w.heap.size w w'))
    (HG : Hid (∀ w, Calls Tryd.prog 17 #[.string s] w fun e w' => e = .returned (.bool false) ∧ w' = w)) :
    Calls Tryd.prog 36 #[.string s] w (OfPost ⟨0, s, 0, 0, 0⟩ w) := by
    subst hbn
    go_enter Tryd.func36, Tryd.ntmps36
    go_wp2_with fail
    have t2 : TokBlk ((w.alloc (Obj.cells #[Value.int IntKind.u8 0, Value.string ⟨#[]⟩, Value.int IntKind.i64 0, Value.int IntKind.i64 0, Value.int IntKind.i64 0] 36)).alloc (Obj.cells #[Value.int IntKind.u8 0, Value.string s, Value.int IntKind.i64 0, Value.int IntKind.i64 0, Value.int IntKind.i64 0] 36)) w.heap.size ⟨0, .empty, 0, 0, 0⟩ := (heap_alloc_old _ _ (by simp)).trans (TokBlk.new w ⟨0, .empty, 0, 0, 0⟩)
    have t3 : TokBlk ((w.alloc (Obj.cells #[Value.int IntKind.u8 0, Value.string ⟨#[]⟩, Value.int IntKind.i64 0, Value.int IntKind.i64 0, Value.int IntKind.i64 0] 36)).alloc (Obj.cells #[Value.int IntKind.u8 0, Value.string s, Value.int IntKind.i64 0, Value.int IntKind.i64 0, Value.int IntKind.i64 0] 36)) (w.heap.size + 1) ⟨0, s, 0, 0, 0⟩ := by
      have h := TokBlk.new (w.alloc (Obj.cells #[Value.int IntKind.u8 0, Value.string ⟨#[]⟩, Value.int IntKind.i64 0, Value.int IntKind.i64 0, Value.int IntKind.i64 0] 36)) ⟨0, s, 0, 0, 0⟩
      simpa using h
    have hbw : Below w.heap.size w ((w.alloc (Obj.cells #[Value.int IntKind.u8 0, Value.string ⟨#[]⟩, Value.int IntKind.i64 0, Value.int IntKind.i64 0, Value.int IntKind.i64 0] 36)).alloc (Obj.cells #[Value.int IntKind.u8 0, Value.string s, Value.int IntKind.i64 0, Value.int IntKind.i64 0, Value.int IntKind.i64 0] 36)) := ((Below.refl w.heap.size w).alloc (Nat.le_refl _) _).alloc (by simp) _
    generalize (w.alloc (Obj.cells #[Value.int IntKind.u8 0, Value.string ⟨#[]⟩, Value.int IntKind.i64 0, Value.int IntKind.i64 0, Value.int IntKind.i64 0] 36)).alloc (Obj.cells #[Value.int IntKind.u8 0, Value.string s, Value.int IntKind.i64 0, Value.int IntKind.i64 0, Value.int IntKind.i64 0] 36) = w1 at *
    refine (HN.out _).mono ?_
    rintro e w0 ⟨rfl, rfl⟩
    go_wp2_with fail
    refine (HW.out _).mono ?_
    rintro e wa ⟨rfl, hb⟩
    have t2 := t2.below hb
    have t3 := t3.below hb
    have hbw := hbw.trans (hb.mono hbw.size)
    clear hb
    go_wp2_with fail
    refine (HM.out _).mono ?_
    rintro e wb ⟨rfl, hb⟩
    have t2 := t2.below hb
    have t3 := t3.below hb
    have hbw := hbw.trans (hb.mono hbw.size)
    clear hb
    go_wp2_with fail
    refine (HG.out _).mono ?_
    rintro e wc ⟨rfl, rfl⟩
    have p0 := t2.c0
    have q0 := t3.c0
    have f0 := t2.f 0
    have g0 := t3.f 0
    have p1 := t2.c1
    have q1 := t3.c1
    have f1 := t2.f 1
    have g1 := t3.f 1
    have p2 := t2.c2
    have q2 := t3.c2
    have f2 := t2.f 2
    have g2 := t3.f 2
    have p3 := t2.c3
    have q3 := t3.c3
    have f3 := t2.f 3
    have g3 := t3.f 3
    have p4 := t2.c4
    have q4 := t3.c4
    have f4 := t2.f 4
    have g4 := t3.f 4
    simp only at p0 p1 p2 p3 p4 q0 q1 q2 q3 q4
    go_wp2_with fail
    have hend : TokBlk _ w.heap.size ⟨0, s, 0, 0, 0⟩ := ((((t2.set0 _).set1 _).set2 _).set3 _).set4 _
    refine bodyPost_ret (results_cell_row (p := 2) (ty := 36) rfl _ _ w.heap.size _ _ _ _ rfl hend Tryd.underlying36 rfl (by kernel_rfl)) rfl ⟨rfl, ?_⟩
    exact (((((hbw.setCell (p := ⟨_, 0, none⟩) (Nat.le_refl _) _).setCell (p := ⟨_, 1, none⟩) (Nat.le_refl _) _).setCell (p := ⟨_, 2, none⟩) (Nat.le_refl _) _).setCell (p := ⟨_, 3, none⟩) (Nat.le_refl _) _).setCell (p := ⟨_, 4, none⟩) (Nat.le_refl _) _)

theorem of_any (s : ByteArray) (w : World) (hs : s.size ≤ 9223372036854775807) :
    Calls Tryd.prog 36 #[.string s] w (OfPost (ofTok s.data.toList) w) := by
  have hn := Lib.hid fun w => rnumber_any s w hs
  have hw := fun w => rword_any s w
  have hm := fun w => rname_any s w hs
  have hg := fun w => rsign_any s w
  have hk : ofTok s.data.toList = ⟨if isWord s then 3 else if isName s then 1 else if isNumber s.data.toList then 2 else if isSign s then 4 else 0, s, if isWord s then 0 else if isName s then 0 else numberVal s.data.toList, 0, 0⟩ := by
    unfold ofTok ofKind ofNum
    rw [bytesOf_self]
  have hv : isNumber s.data.toList = false → numberVal s.data.toList = 0 := fun h => by unfold numberVal; rw [h]; rfl
  rw [hk]
  generalize numberVal s.data.toList = nv at *
  generalize isNumber s.data.toList = bn at *
  generalize isWord s = bw at *
  generalize isName s = bm at *
  generalize isSign s = bg at *
  clear hk
  cases bw with
  | true => exact of_word s w nv bn _ _ hn (Lib.hid hw) (Lib.hid hm) (Lib.hid hg)
  | false =>
    cases bm with
    | true => exact of_name s w nv bn _ hn (Lib.hid hw) (Lib.hid hm) (Lib.hid hg)
    | false =>
      cases bn with
      | true => exact of_num s w nv true rfl _ hn (Lib.hid hw) (Lib.hid hm) (Lib.hid hg)
      | false =>
        rw [hv rfl] at hn ⊢
        cases bg with
        | true => exact of_sign s w 0 false rfl hn (Lib.hid hw) (Lib.hid hm) (Lib.hid hg)
        | false => exact of_none s w 0 false rfl hn (Lib.hid hw) (Lib.hid hm) (Lib.hid hg)
end Go.Proofs.YtjfoinikdifgmaaDoor
