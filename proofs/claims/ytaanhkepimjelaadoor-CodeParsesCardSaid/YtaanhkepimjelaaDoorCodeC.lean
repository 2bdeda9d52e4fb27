/- The walk of dispatcherref05.Copy. -/
import Derived.Test.YtaanhkepimjelaaDoorCode9
import Derived.Deep.Upon
namespace Go.Proofs.YtaanhkepimjelaaDoor
open Go.RowKit Go.Sort
set_option linter.unusedVariables false
set_option linter.unusedSimpArgs false

/-- 'append([]T(nil), xs...)': a copy. -/
theorem append_nil_copy (w : World) (t ty e : TypeId) (i : TypeInfo) (z : Value) (size bytes : Nat) (ht : Tryd.prog.underlying t = some (.slice e)) (hi : Tryd.prog.info? e = some i) (hz : i.zero = some z) (hs : i.size = size) (hby : i.bytes = bytes) (hzs : z.cells.size = size) (hsz : 0 < size)
    (A : Option Addr) (n c : Nat) (cs : List Value) (hcs : cs.length = n * size) (hc : ∀ j u, cs[j]? = some u → ∃ a, A = some a ∧ w.cell? (a.add j) = some u) (h1 : ∀ u ∈ cs, u.oneCell' = true) (b1 : n ≤ maxLen) (b2 : n * bytes ≤ 140737488355328) :
    ∃ v w', (Builtin.append_ #[t, t] ty #[.slice none 0 0, .slice A n c]).run Tryd.prog w = .ok v w' ∧ w'.ownsRow w.heap.size e size v n cs ∧ w.grownBy w' none := by
  rcases Nat.eq_zero_or_pos n with rfl | hn
  · obtain rfl : cs = [] := List.eq_nil_of_length_eq_zero (by simpa using hcs)
    refine ⟨.slice none 0 0, w, ?_, World.ownsRow_nil w _ e size, ⟨rfl, rfl, rfl, Nat.le_refl _, fun _ _ _ => rfl⟩⟩
    cases A with
    | none => exact run_append_nothing w _ _ _ _ i ht hi _ 0 0 (Nat.le_refl _) _ (Src.ofNil w ht c)
    | some a => exact run_append_nothing w _ _ _ _ i ht hi _ 0 0 (Nat.le_refl _) _ (Src.ofSlice w ht a 0 c [] (by simp) (by simp) (by simp))
  · have hpos : 0 < cs.length := by rw [hcs]; exact Nat.mul_pos hn hsz
    obtain ⟨a, rfl, _⟩ := hc 0 cs[0] (List.getElem?_eq_getElem hpos)
    obtain ⟨v', w', hrun, r1, r2, _⟩ := run_append_own (P := Tryd.prog) w w.heap.size t ty e i z size bytes ht hi hz hs hby hzs hsz (.slice none 0 0) 0 [] (World.ownsRow_nil w _ e size) a n c cs hcs (fun j u hj => by
      obtain ⟨a', e', h⟩ := hc j u hj
      cases e'
      exact h) h1 (by rw [Nat.zero_add]; exact b1) (by rw [Nat.zero_add]; exact b2) (Nat.le_refl _)
    rw [Nat.zero_add, List.nil_append] at r1
    exact ⟨v', w', hrun, r1, r2⟩
theorem wpList_append_nil_copy (w : World) {ops : Array Oper} {rest : List Oper} {o : Oper} {a : Act} {Q : Exit → Act → World → Prop} (hg : o.guard = none) (s x : Operand) (t : TypeId)
    (hop : o.op = Op.call { callee := Callee.builtin Builtin.append, args := #[s, x], argTypes := #[t, t] })
    (e : TypeId) (i : TypeInfo) (z : Value) (size bytes : Nat) (ht : Tryd.prog.underlying t = some (.slice e)) (hi : Tryd.prog.info? e = some i) (hz : i.zero = some z) (hs : i.size = size) (hby : i.bytes = bytes) (hzs : z.cells.size = size) (hsz : 0 < size)
    (A : Option Addr) (n c : Nat) (cs : List Value) (hse : a.eval s = .slice none 0 0) (hxe : a.eval x = .slice A n c) (hcs : cs.length = n * size) (hc : ∀ j u, cs[j]? = some u → ∃ a, A = some a ∧ w.cell? (a.add j) = some u) (h1 : ∀ u ∈ cs, u.oneCell' = true) (b1 : n ≤ maxLen) (b2 : n * bytes ≤ 140737488355328)
    (hK : ∀ v w', w'.ownsRow w.heap.size e size v n cs → w.grownBy w' none → wpList Tryd.prog ops Q rest (a.put o.dst v) w') : wpList Tryd.prog ops Q (o :: rest) a w := by
  refine wpList_plain hg fun K hK' => ?_
  obtain ⟨v, w', hrun, r1, r2⟩ := append_nil_copy w t o.type e i z size bytes ht hi hz hs hby hzs hsz A n c cs hcs hc h1 b1 b2
  unfold Oper.wp
  simp [execOp, hop, resolve, invoke, builtin, hse, hxe, hrun, Result.andThen]
  exact hK' _ _ (hK v w' r1 r2)
theorem insRow_cells {w : World} {A : Option Addr} {l : List Ins} (h : InsRow w A l) : ∀ j u, (insCells l)[j]? = some u → ∃ a, A = some a ∧ w.cell? (a.add j) = some u := fun j u hj => by
  have hlt := (List.getElem?_eq_some_iff.1 hj).1
  rw [insCells_length] at hlt
  have hk : j / 2 < l.length := by omega
  obtain ⟨b, o, rfl, _, h0, h1⟩ := h (j / 2) hk
  have hg := insCells_get l (j / 2) hk
  refine ⟨_, rfl, ?_⟩
  rw [Addr.add_lit]
  rcases Nat.mod_two_eq_zero_or_one j with e | e
  · have ej : j / 2 * 2 = j := by omega
    rw [ej] at h0 hg
    rw [h0, ← hg.1, hj]
  · have ej : j / 2 * 2 + 1 = j := by omega
    rw [ej] at hg
    rw [Nat.add_assoc, ej] at h1
    rw [h1, ← hg.2, hj]
theorem intRow_cells {w : World} {A : Option Addr} {l : List Int} (h : IntRow w A l) : ∀ j u, (l.map (Value.int .i64))[j]? = some u → ∃ a, A = some a ∧ w.cell? (a.add j) = some u := fun j u hj => by
  have hlt : j < l.length := by
    have := (List.getElem?_eq_some_iff.1 hj).1
    simpa using this
  obtain ⟨b, o, rfl, _, h0⟩ := h j hlt
  refine ⟨_, rfl, ?_⟩
  rw [Addr.add_lit, h0, ← hj]
  simp [List.getElem?_eq_getElem hlt]
theorem insCells_one (l : List Ins) : ∀ u ∈ insCells l, u.oneCell' = true := fun u hu => by
  obtain ⟨i, _, h⟩ := List.mem_flatMap.1 hu
  simp only [List.mem_cons, List.not_mem_nil, or_false] at h
  rcases h with rfl | rfl <;> rfl
theorem intCells_one (l : List Int) : ∀ u ∈ l.map (Value.int .i64), u.oneCell' = true := fun u hu => by
  obtain ⟨i, _, rfl⟩ := List.mem_map.1 hu
  rfl
/-- What is handed back is a copy. -/
def CopyPost (p : Cp) (w : World) (e : Ending) (w' : World) : Prop :=
  (∃ (A B : Option Addr) (cA cB : Nat), e = .returned (.agg #[.slice A p.code.length cA, .int .i64 p.vars, .slice B p.arrays.length cB]) ∧
    w'.ownsRow w.heap.size 33 2 (.slice A p.code.length cA) p.code.length (insCells p.code) ∧ w'.ownsRow w.heap.size 3 1 (.slice B p.arrays.length cB) p.arrays.length (p.arrays.map (Value.int .i64))) ∧ Below w.heap.size w w'

set_option maxHeartbeats 4000000 in
set_option maxRecDepth 100000 in
theorem copy_any (A B : Option Addr) (cA cB : Nat) (p : Cp) (w : World) (hI : CpIn w A cA B cB p) (h4 : p.code.length ≤ 4000) (h1000 : p.arrays.length ≤ 4000) :
    Calls Tryd.prog 13 #[.agg #[.slice A p.code.length cA, .int .i64 p.vars, .slice B p.arrays.length cB]] w (CopyPost p w) := by
  obtain ⟨i0, hi0, hz00, hz10, hz20⟩ := info_parts Tryd.infoInstr
  obtain ⟨i1, hi1, hz01, hz11, hz21⟩ := info_parts Tryd.infoInt
  have hlc := hI.lc
  have hla := hI.la
  have HI := Lib.hid hI
  have HN := Lib.hid (show p.code.length ≤ maxLen ∧ p.code.length * 16 ≤ 140737488355328 ∧ p.arrays.length ≤ maxLen ∧ p.arrays.length * 8 ≤ 140737488355328 by unfold maxLen; omega)
  have H0 := Lib.hid (And.intro hi0 (And.intro hz00 (And.intro hz10 hz20)))
  have H1 := Lib.hid (And.intro hi1 (And.intro hz01 (And.intro hz11 hz21)))
  clear hI hi0 hz00 hz10 hz20 hi1 hz01 hz11 hz21
  go_enter Tryd.func13, Tryd.ntmps13
  go_upto_region 3 with fail
  have hb1 : Below w.heap.size w ((w.alloc (.cells #[.slice A p.code.length cA, .int .i64 p.vars, .slice B p.arrays.length cB] 25)).alloc (.cells #[.slice none 0 0, .int .i64 0, .slice none 0 0] 25)) := ((Below.refl _ _).alloc (Nat.le_refl _) _).alloc (by simp) _
  have hP1 : ((w.alloc (.cells #[.slice A p.code.length cA, .int .i64 p.vars, .slice B p.arrays.length cB] 25)).alloc (.cells #[.slice none 0 0, .int .i64 0, .slice none 0 0] 25)).heap[w.heap.size]? = some (.cells #[.slice A p.code.length cA, .int .i64 p.vars, .slice B p.arrays.length cB] 25 (0, 0)) := (heap_alloc_old _ _ (by simp)).trans (heap_alloc_new _ _)
  have hR1 : ((w.alloc (.cells #[.slice A p.code.length cA, .int .i64 p.vars, .slice B p.arrays.length cB] 25)).alloc (.cells #[.slice none 0 0, .int .i64 0, .slice none 0 0] 25)).heap[w.heap.size + 1]? = some (.cells #[.slice none 0 0, .int .i64 0, .slice none 0 0] 25 (0, 0)) := by
    have h := heap_alloc_new (w.alloc (.cells #[.slice A p.code.length cA, .int .i64 p.vars, .slice B p.arrays.length cB] 25)) (.cells #[.slice none 0 0, .int .i64 0, .slice none 0 0] 25)
    have e : (w.alloc (.cells #[.slice A p.code.length cA, .int .i64 p.vars, .slice B p.arrays.length cB] 25)).heap.size = w.heap.size + 1 := by simp
    rw [e] at h
    exact h
  have hS1 : ((w.alloc (.cells #[.slice A p.code.length cA, .int .i64 p.vars, .slice B p.arrays.length cB] 25)).alloc (.cells #[.slice none 0 0, .int .i64 0, .slice none 0 0] 25)).heap.size = w.heap.size + 2 := by simp
  generalize ((w.alloc (.cells #[.slice A p.code.length cA, .int .i64 p.vars, .slice B p.arrays.length cB] 25)).alloc (.cells #[.slice none 0 0, .int .i64 0, .slice none 0 0] 25)) = w1 at *
  have hI1 := HI.out.below hb1
  have q0 : w1.cell? ⟨w.heap.size, 0, none⟩ = some (.slice A p.code.length cA) := by rw [Lib.cell_of_heap hP1]; rfl
  have q2 : w1.cell? ⟨w.heap.size, 2, none⟩ = some (.slice B p.arrays.length cB) := by rw [Lib.cell_of_heap hP1]; rfl
  have f0 : w1.frozen? ⟨w.heap.size, 0, none⟩ = false := by simp [World.frozen?, hP1]
  have hlt1 : w.heap.size < w1.heap.size := by omega
  have HC1 := Lib.hid (insRow_cells hI1.code)
  have HC2 := Lib.hid (intRow_cells hI1.arrs)
  have HO1 := Lib.hid (insCells_one p.code)
  have HO2 := Lib.hid (intCells_one p.arrays)
  have HL1 := Lib.hid (insCells_length p.code)
  have HB1 := Lib.hid hb1
  have HP1 := Lib.hid hP1
  have HR1 := Lib.hid hR1
  have HI1 := Lib.hid hI1
  clear hI1 hb1 hP1 hR1
  go_wp2_with (at_builtin; refine wpList_append_nil_copy _ rfl (.tmp 5) (.tmp 7) 22 rfl 33 i0 _ 2 16 Tryd.underlying22 H0.out.1 H0.out.2.1 H0.out.2.2.1 H0.out.2.2.2 rfl (by decide) A p.code.length cA (insCells p.code) rfl rfl HL1.out HC1.out HO1.out HN.out.1 HN.out.2.1 ?_)
  intro v2 w2 hown2 hg2
  obtain ⟨A2, c2, rfl, _, _, hA2, _⟩ := own_shape hown2
  have hb2 : Below w1.heap.size w1 w2 := ⟨hg2.os, hg2.tape, hg2.output, hg2.size, fun k hk => hg2.block k hk (by simp)⟩
  have HP2 := Lib.hid ((hb2.block _ hlt1).trans HP1.out)
  have HR2 := Lib.hid ((hb2.block _ (by omega : w.heap.size + 1 < w1.heap.size)).trans HR1.out)
  have q0 := cell_later hb2 q0
  have q2 := cell_later hb2 q2
  have f0 : w2.frozen? ⟨w.heap.size, 0, none⟩ = false := by simp [World.frozen?, HP2.out]
  have hS2 : w.heap.size + 1 < w2.heap.size := Nat.lt_of_lt_of_le (by omega) hb2.size
  have HB3 := Lib.hid (((HB1.out.trans (hb2.mono HB1.out.size)).setCell (p := ⟨w.heap.size, 0, none⟩) (Nat.le_refl _) (.slice A2 p.code.length c2)))
  have hP3 : (w2.setCell ⟨w.heap.size, 0, none⟩ (.slice A2 p.code.length c2)).heap[w.heap.size]? = some (.cells #[.slice A2 p.code.length c2, .int .i64 p.vars, .slice B p.arrays.length cB] 25 (0, 0)) := by
    rw [heap_setCell_same w2 w.heap.size 0 _ _ _ HP2.out]
    rfl
  have hR3 : (w2.setCell ⟨w.heap.size, 0, none⟩ (.slice A2 p.code.length c2)).heap[w.heap.size + 1]? = some (.cells #[.slice none 0 0, .int .i64 0, .slice none 0 0] 25 (0, 0)) := by
    rw [heap_setCell_other w2 ⟨w.heap.size, 0, none⟩ (w.heap.size + 1) _ (by simp)]
    exact HR2.out
  have hown3 := ownsRow_setCell_below hown2 (a := ⟨w.heap.size, 0, none⟩) (by show w.heap.size < _; omega) (.slice A2 p.code.length c2)
  have hS3 : w.heap.size + 1 < (w2.setCell ⟨w.heap.size, 0, none⟩ (.slice A2 p.code.length c2)).heap.size := by rw [World.size_setCell]; exact hS2
  have hb23 : Below w.heap.size w2 (w2.setCell ⟨w.heap.size, 0, none⟩ (.slice A2 p.code.length c2)) := (Below.refl _ _).setCell (p := ⟨w.heap.size, 0, none⟩) (Nat.le_refl _) _
  have HP3 := Lib.hid hP3
  have HR3 := Lib.hid hR3
  have HOWN3 := Lib.hid hown3
  have hs12 : w1.heap.size ≤ w2.heap.size := hb2.size
  clear hown2 hg2 hb2 HP2 HR2 hP3 hR3 hown3 hA2 hb23
  go_upto_region 4 with fail
  clear q0 q2 f0
  have hS3' : w1.heap.size ≤ (w2.setCell ⟨w.heap.size, 0, none⟩ (.slice A2 p.code.length c2)).heap.size := by rw [World.size_setCell]; exact hs12
  generalize w2.setCell ⟨w.heap.size, 0, none⟩ (.slice A2 p.code.length c2) = w3 at *
  have hI3 := HI.out.below HB3.out
  have q2 : w3.cell? ⟨w.heap.size, 2, none⟩ = some (.slice B p.arrays.length cB) := by rw [Lib.cell_of_heap HP3.out]; rfl
  have HC3 := Lib.hid (intRow_cells hI3.arrs)
  clear hI3 hs12 HC1 HC2 hS2
  go_wp2_with (at_builtin; refine wpList_append_nil_copy _ rfl (.tmp 10) (.tmp 12) 23 rfl 3 i1 _ 1 8 Tryd.underlying23 H1.out.1 H1.out.2.1 H1.out.2.2.1 H1.out.2.2.2 rfl (by decide) B p.arrays.length cB (p.arrays.map (Value.int .i64)) rfl rfl (by simp) HC3.out HO2.out HN.out.2.2.1 HN.out.2.2.2 ?_)
  intro v4 w4 hown4 hg4
  obtain ⟨B2, c4, rfl, _, _, hB2, _⟩ := own_shape hown4
  have hb4 : Below w3.heap.size w3 w4 := ⟨hg4.os, hg4.tape, hg4.output, hg4.size, fun k hk => hg4.block k hk (by simp)⟩
  have HP4 := Lib.hid ((hb4.block _ (by omega : w.heap.size < w3.heap.size)).trans HP3.out)
  have HR4 := Lib.hid ((hb4.block _ hS3).trans HR3.out)
  have HOWN4 := Lib.hid (own_below5 HOWN3.out hb4)
  have HB4 := Lib.hid (HB3.out.trans (hb4.mono HB3.out.size))
  have p0 : w4.cell? ⟨w.heap.size, 0, none⟩ = some (.slice A2 p.code.length c2) := by rw [Lib.cell_of_heap HP4.out]; rfl
  have p1 : w4.cell? ⟨w.heap.size, 1, none⟩ = some (.int .i64 p.vars) := by rw [Lib.cell_of_heap HP4.out]; rfl
  have p2 : w4.cell? ⟨w.heap.size, 2, none⟩ = some (.slice B p.arrays.length cB) := by rw [Lib.cell_of_heap HP4.out]; rfl
  have f2 : w4.frozen? ⟨w.heap.size, 2, none⟩ = false := by simp [World.frozen?, HP4.out]
  have r0 : w4.cell? ⟨w.heap.size + 1, 0, none⟩ = some (.slice none 0 0) := by rw [Lib.cell_of_heap HR4.out]; rfl
  have r1 : w4.cell? ⟨w.heap.size + 1, 1, none⟩ = some (.int .i64 0) := by rw [Lib.cell_of_heap HR4.out]; rfl
  have r2 : w4.cell? ⟨w.heap.size + 1, 2, none⟩ = some (.slice none 0 0) := by rw [Lib.cell_of_heap HR4.out]; rfl
  have g0 : w4.frozen? ⟨w.heap.size + 1, 0, none⟩ = false := by simp [World.frozen?, HR4.out]
  have g1 : w4.frozen? ⟨w.heap.size + 1, 1, none⟩ = false := by simp [World.frozen?, HR4.out]
  have g2 : w4.frozen? ⟨w.heap.size + 1, 2, none⟩ = false := by simp [World.frozen?, HR4.out]
  have hS4 : w.heap.size + 1 < w4.heap.size := Nat.lt_of_lt_of_le hS3 hb4.size
  have HOWN5 := Lib.hid (hown4.mono (show w1.heap.size ≤ w3.heap.size from hS3'))
  clear hown4 hg4 hb4 q2 hB2
  go_wp2_with fail
  have k1 := heap_setCell_other w4 ⟨w.heap.size, 2, none⟩ (w.heap.size + 1) (.slice B2 p.arrays.length c4) (by simp)
  have k2 := heap_setCell_same (w4.setCell ⟨w.heap.size, 2, none⟩ (.slice B2 p.arrays.length c4)) (w.heap.size + 1) 0 _ 25 (.slice A2 p.code.length c2) (k1.trans HR4.out)
  have k3 := heap_setCell_same _ (w.heap.size + 1) 1 _ 25 (.int .i64 p.vars) k2
  have k4 := heap_setCell_same _ (w.heap.size + 1) 2 _ 25 (.slice B2 p.arrays.length c4) k3
  have HB9 := Lib.hid ((((HB4.out.setCell (p := ⟨w.heap.size, 2, none⟩) (Nat.le_refl _) (.slice B2 p.arrays.length c4)).setCell (p := ⟨w.heap.size + 1, 0, none⟩) (Nat.le_succ _) (.slice A2 p.code.length c2)).setCell (p := ⟨w.heap.size + 1, 1, none⟩) (Nat.le_succ _) (.int .i64 p.vars)).setCell (p := ⟨w.heap.size + 1, 2, none⟩) (Nat.le_succ _) (.slice B2 p.arrays.length c4))
  have hw1 : w.heap.size + 1 < w1.heap.size := by omega
  have HO7 := Lib.hid (ownsRow_setCell_below (ownsRow_setCell_below (ownsRow_setCell_below (ownsRow_setCell_below HOWN4.out (a := ⟨w.heap.size, 2, none⟩) (by show w.heap.size < _; omega) (.slice B2 p.arrays.length c4)) (a := ⟨w.heap.size + 1, 0, none⟩) (by show w.heap.size + 1 < _; omega) (.slice A2 p.code.length c2)) (a := ⟨w.heap.size + 1, 1, none⟩) (by show w.heap.size + 1 < _; omega) (.int .i64 p.vars)) (a := ⟨w.heap.size + 1, 2, none⟩) (by show w.heap.size + 1 < _; omega) (.slice B2 p.arrays.length c4))
  have HO8 := Lib.hid (ownsRow_setCell_below (ownsRow_setCell_below (ownsRow_setCell_below (ownsRow_setCell_below HOWN5.out (a := ⟨w.heap.size, 2, none⟩) (by show w.heap.size < _; omega) (.slice B2 p.arrays.length c4)) (a := ⟨w.heap.size + 1, 0, none⟩) (by show w.heap.size + 1 < _; omega) (.slice A2 p.code.length c2)) (a := ⟨w.heap.size + 1, 1, none⟩) (by show w.heap.size + 1 < _; omega) (.int .i64 p.vars)) (a := ⟨w.heap.size + 1, 2, none⟩) (by show w.heap.size + 1 < _; omega) (.slice B2 p.arrays.length c4))
  have x0 := (Lib.cell_of_heap k4 0).trans (show _ = some (Value.slice A2 p.code.length c2) from rfl)
  have x1 := (Lib.cell_of_heap k4 1).trans (show _ = some (Value.int .i64 p.vars) from rfl)
  have x2 := (Lib.cell_of_heap k4 2).trans (show _ = some (Value.slice B2 p.arrays.length c4) from rfl)
  generalize (((w4.setCell ⟨w.heap.size, 2, none⟩ (.slice B2 p.arrays.length c4)).setCell ⟨w.heap.size + 1, 0, none⟩ (.slice A2 p.code.length c2)).setCell ⟨w.heap.size + 1, 1, none⟩ (.int .i64 p.vars)).setCell ⟨w.heap.size + 1, 2, none⟩ (.slice B2 p.arrays.length c4) = w9 at *
  clear k1 k2 k3 k4
  have hle : w.heap.size ≤ w1.heap.size := by omega
  refine bodyPost_ret (v := .agg #[.slice A2 p.code.length c2, .int .i64 p.vars, .slice B2 p.arrays.length c4]) (by simp [results, Tryd.results13, go_sem, x0, x1, x2]) rfl ?_
  exact ⟨⟨A2, B2, c2, c4, rfl, HO7.out.mono (by omega), HO8.out.mono (by omega)⟩, HB9.out⟩
end Go.Proofs.YtaanhkepimjelaaDoor
