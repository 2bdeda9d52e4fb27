/- Plain steps of the law CodeMore. -/
import Derived.Test.YtaanhkepimjelaaDoorCodeU
import Derived.Test.YtaanhkepimjelaaDoorCode9
namespace Go.Proofs.YtaanhkepimjelaaDoor
open Go.RowKit Go.Sort
set_option linter.unusedVariables false
set_option linter.unusedSimpArgs false

theorem whole_more {p : Cp} (h : p.whole = true) {v : Int} {a : List Int} (hv : p.vars ≤ v) (ha : (p.arrays.length : Int) ≤ a.length) : (Cp.mk p.code v a).whole = (arraysOk 0 a && decide (v ≤ 64)) := by
  obtain ⟨h1, h2, h3, h4, h5, h6, h7⟩ := Cp.whole_parts h
  unfold Cp.whole
  have hl : p.code.getLast? = some (p.code[p.code.length - 1]'(by omega)) := by
    rw [List.getLast?_eq_getElem?, List.getElem?_eq_getElem (by omega)]
  have hall : p.code.all (Cp.mk p.code v a).fits = true := by
    rw [List.all_eq_true]
    intro i hi
    exact fits_more (h6 i hi) hv ha
  simp only
  rw [hl, decide_eq_true h2, decide_eq_true h3, decide_eq_true (p := 0 ≤ v) (by omega), hall]
  simp only [Option.any_some, h7 (by omega)]
  simp only [Bool.and_true]
  rw [show ((29 : Int) == 29) = true from rfl, Bool.and_true]
theorem whole_vars {p : Cp} (h : p.whole = true) : (Cp.mk p.code (p.vars + 1) p.arrays).whole = decide (p.vars < 64) := by
  rw [whole_more h (by omega) (by omega), (Cp.whole_parts h).1, Bool.true_and]
  exact decide_eq_decide.2 (by omega)
theorem whole_arr {p : Cp} (h : p.whole = true) (n : Int) : (Cp.mk p.code p.vars (p.arrays ++ [n])).whole = (decide (1 ≤ n) && decide (n ≤ 1000 - p.arrays.sum)) := by
  obtain ⟨h1, h2, h3, h4, h5, h6, h7⟩ := Cp.whole_parts h
  rw [whole_more h (by omega) (by simp; omega), arraysOk_append, h1, decide_eq_true h5]
  simp
theorem may_vars {p : Cp} {l : List Int} (h : p.whole = true) (ht : Told p.code l) : (Cp.mk p.code (p.vars + 1) p.arrays).May ↔ p.vars < 64 := by
  unfold Cp.May
  rw [whole_vars h, decide_eq_true_eq]
  exact ⟨fun h => h.1, fun h => ⟨h, l, ht⟩⟩
theorem may_arr {p : Cp} {l : List Int} (h : p.whole = true) (ht : Told p.code l) (n : Int) : (Cp.mk p.code p.vars (p.arrays ++ [n])).May ↔ 1 ≤ n ∧ n ≤ 1000 - p.arrays.sum := by
  unfold Cp.May
  rw [whole_arr h, Bool.and_eq_true, decide_eq_true_eq, decide_eq_true_eq]
  exact ⟨fun h => h.1, fun h => ⟨h, l, ht⟩⟩
theorem PgAt.heap {w : World} {P : Nat} {A : Option Addr} {lc c1 : Nat} {v : Int} {B : Option Addr} {la c2 : Nat} {t : TypeId} {fr : Nat × Nat} (h : w.heap[P]? = some (.cells #[.slice A lc c1, .int .i64 v, .slice B la c2] t fr)) : PgAt w P A lc c1 v B la c2 := by
  constructor <;> rw [Lib.cell_of_heap h] <;> rfl
/-- A program's value, laid in a block of its own. -/
def PgBlk (w : World) (P : Nat) (A : Option Addr) (lc c1 : Nat) (v : Int) (B : Option Addr) (la c2 : Nat) : Prop := w.heap[P]? = some (.cells #[.slice A lc c1, .int .i64 v, .slice B la c2] 25 (0, 0))
section
variable {w w' : World} {P : Nat} {A : Option Addr} {lc c1 : Nat} {v : Int} {B : Option Addr} {la c2 : Nat}
theorem PgBlk.at (h : PgBlk w P A lc c1 v B la c2) : PgAt w P A lc c1 v B la c2 := PgAt.heap h
theorem PgBlk.lt (h : PgBlk w P A lc c1 v B la c2) : P < w.heap.size := (Array.getElem?_eq_some_iff.1 h).1
theorem PgBlk.new : PgBlk (w.alloc (.cells #[.slice A lc c1, .int .i64 v, .slice B la c2] 25)) w.heap.size A lc c1 v B la c2 := heap_alloc_new w _
theorem PgBlk.fz (h : PgBlk w P A lc c1 v B la c2) (j : Nat) : w.frozen? ⟨P, j, none⟩ = false := by
  unfold PgBlk at h
  simp [World.frozen?, h]
theorem PgBlk.below (h : PgBlk w P A lc c1 v B la c2) (hb : Below w.heap.size w w') : PgBlk w' P A lc c1 v B la c2 := (hb.block P h.lt).trans h
theorem PgBlk.set0 (h : PgBlk w P A lc c1 v B la c2) (A' : Option Addr) (lc' c1' : Nat) : PgBlk (w.setCell ⟨P, 0, none⟩ (.slice A' lc' c1')) P A' lc' c1' v B la c2 := by
  unfold PgBlk
  rw [heap_setCell_same w P 0 _ _ _ h]
  rfl
theorem PgBlk.set1 (h : PgBlk w P A lc c1 v B la c2) (v' : Int) : PgBlk (w.setCell ⟨P, 1, none⟩ (.int .i64 v')) P A lc c1 v' B la c2 := by
  unfold PgBlk
  rw [heap_setCell_same w P 1 _ _ _ h]
  rfl
theorem PgBlk.set2 (h : PgBlk w P A lc c1 v B la c2) (B' : Option Addr) (la' c2' : Nat) : PgBlk (w.setCell ⟨P, 2, none⟩ (.slice B' la' c2')) P A lc c1 v B' la' c2' := by
  unfold PgBlk
  rw [heap_setCell_same w P 2 _ _ _ h]
  rfl
end
theorem CpIn.vars {w : World} {A B : Option Addr} {cA cB : Nat} {p : Cp} (h : CpIn w A cA B cB p) {v : Int} (hv : -9223372036854775808 ≤ v ∧ v ≤ 9223372036854775807) : CpIn w A cA B cB ⟨p.code, v, p.arrays⟩ :=
  ⟨h.code, h.arrs, h.ok, h.aok, hv, h.lc, h.la⟩
theorem InsRow.take {w : World} {A : Option Addr} {l : List Ins} (h : InsRow w A l) (n : Nat) : InsRow w A (l.take n) := fun k hk => by
  have hk2 : k < l.length := by
    rw [List.length_take] at hk
    omega
  obtain ⟨b, o, e, f, h0, h1⟩ := h k hk2
  refine ⟨b, o, e, f, ?_, ?_⟩
  · rw [List.getElem_take]; exact h0
  · rw [List.getElem_take]; exact h1
theorem CpIn.take {w : World} {A B : Option Addr} {cA cB : Nat} {p : Cp} (h : CpIn w A cA B cB p) (n : Nat) : CpIn w A cA B cB ⟨p.code.take n, p.vars, p.arrays⟩ :=
  ⟨h.code.take n, h.arrs, fun i hi => h.ok i (List.mem_of_mem_take hi), h.aok, h.vok, by have := h.lc; simp only [List.length_take]; omega, h.la⟩
theorem own_ne2 {w : World} {base base' : Nat} {e e' : TypeId} {size size' n n' : Nat} {v v' : Value} {xs xs' : List Value} (h : w.ownsRow base e size v n xs) (h' : w.ownsRow base' e' size' v' n' xs') (hne : e ≠ e') : v.ownBlock = none ∨ v.ownBlock ≠ v'.ownBlock := by
  cases hv : v.ownBlock with
  | none => exact .inl rfl
  | some g =>
    refine .inr fun he => ?_
    obtain ⟨c1, f1, h1⟩ := Lib.ownsRow_kind h g hv
    obtain ⟨c2, f2, h2⟩ := Lib.ownsRow_kind h' g he.symm
    rw [h1] at h2
    injection h2 with h2
    injection h2 with _ h2
    exact hne h2
theorem own_ne_blk {w : World} {base : Nat} {e t : TypeId} {size n R : Nat} {v : Value} {xs : List Value} {cs : Array Value} {fr : Nat × Nat} (h : w.ownsRow base e size v n xs) (hb : w.heap[R]? = some (.cells cs t fr)) (hne : e ≠ t) : v.ownBlock ≠ some R := fun he => by
  obtain ⟨c1, f1, h1⟩ := Lib.ownsRow_kind h R he
  rw [h1] at hb
  injection hb with h2
  injection h2 with _ h2
  exact hne h2
/-- Heights' answer as a row and a number; the row lies there either way. -/
theorem heights_ways {q : Cp} {w w' : World} {e : Ending} {l : List Int} {b : Nat} (h : HeightsPost q w e w') (ht : Told q.code l) (hb : IntBlk w b l) : ∃ (m : Value) (n : Int) (b2 : Nat), e = .returned (.tuple #[m, .int .i64 n]) ∧ IntBlk w' b2 l ∧ ((q.May ∧ m = .slice (some ⟨b2, 0, none⟩) l.length l.length ∧ n = 0) ∨ (¬ q.May ∧ m = .slice none 0 0 ∧ n = 50)) := by
  obtain ⟨h, hbl⟩ := h
  rcases h with ⟨b2, l2, hw2, ht2, rfl, _, hbl2⟩ | ⟨hbad, rfl⟩
  · obtain rfl := ht2.one ht
    exact ⟨_, _, b2, rfl, hbl2, .inl ⟨⟨hw2, _, ht⟩, rfl, rfl⟩⟩
  · exact ⟨_, _, b, rfl, hb.below hbl, .inr ⟨Cp.may_not hbad, rfl, rfl⟩⟩
end Go.Proofs.YtaanhkepimjelaaDoor
