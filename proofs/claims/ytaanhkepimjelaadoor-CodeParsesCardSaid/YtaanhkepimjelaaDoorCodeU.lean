/- Plain steps of the laws CodeUnseen and CodeMore; rows that are copies. -/
import Derived.Test.YtaanhkepimjelaaDoorCodeC
import Derived.OneCell
import Derived.Lib.OwnKind
namespace Go.Proofs.YtaanhkepimjelaaDoor
open Go.RowKit Go.Sort
set_option linter.unusedVariables false
set_option linter.unusedSimpArgs false

theorem insCells_set : ∀ (l : List Ins) (a : Nat) (i : Ins), a < l.length → insCells (l.set a i) = ((insCells l).set (a * 2) (.int .u8 i.op)).set (a * 2 + 1) (.int .i64 i.n)
  | x :: l, 0, i, _ => rfl
  | x :: l, a + 1, i, h => by
    have e : insCells (x :: l) = Value.int .u8 x.op :: Value.int .i64 x.n :: insCells l := rfl
    have e2 : insCells (x :: l.set a i) = Value.int .u8 x.op :: Value.int .i64 x.n :: insCells (l.set a i) := rfl
    rw [List.set_cons_succ, e2, e, insCells_set l a i (by simpa using h), show (a + 1) * 2 = a * 2 + 1 + 1 by omega, show a * 2 + 1 + 1 + 1 = (a * 2 + 1) + 1 + 1 by omega]
    simp only [List.set_cons_succ]
/-- Another instruction where none comes: all that there is to say of it. -/
theorem whole_set {p : Cp} (h : p.whole = true) {a : Nat} (ha : a + 1 < p.code.length) : (Cp.mk (p.code.set a ⟨13, 0⟩) p.vars p.arrays).whole = true := by
  obtain ⟨h1, h2, h3, h4, h5, h6, h7⟩ := Cp.whole_parts h
  unfold Cp.whole
  have hl : (p.code.set a ⟨13, 0⟩).getLast? = some (p.code[p.code.length - 1]'(by omega)) := by
    rw [List.getLast?_eq_getElem?, List.length_set, List.getElem?_set, if_neg (by omega), List.getElem?_eq_getElem (by omega)]
  simp only
  rw [h1, hl, List.length_set, decide_eq_true h2, decide_eq_true h3, decide_eq_true h4, decide_eq_true h5]
  have hall : (p.code.set a ⟨13, 0⟩).all (Cp.mk (p.code.set a ⟨13, 0⟩) p.vars p.arrays).fits = true := by
    rw [List.all_eq_true]
    intro i hi
    unfold Cp.fits
    simp only [List.length_set]
    rcases List.mem_or_eq_of_mem_set hi with h8 | h8
    · exact h6 i h8
    · subst h8
      simp [fitsOf]
  rw [hall]
  simp [h7 (by omega)]
theorem told_set {c : List Ins} {l : List Int} (ht : Told c l) (h0 : 0 < c.length) {a : Nat} (ha : ∀ h : a < l.length, l[a] = -1) (i : Ins) : Told (c.set a i) l :=
  ht.of_eq (a := a) (by rw [List.length_set]) h0 ha (fun j h1 h2 hne => by rw [List.getElem_set, if_neg (fun e => hne e.symm)])
theorem cpIn_own {w : World} {base cA cB : Nat} {A B : Option Addr} {q : Cp} (h1 : w.ownsRow base 33 2 (.slice A q.code.length cA) q.code.length (insCells q.code)) (h2 : w.ownsRow base 3 1 (.slice B q.arrays.length cB) q.arrays.length (q.arrays.map (Value.int .i64)))
    (hok : ∀ i ∈ q.code, i.Ok) (haok : ∀ n ∈ q.arrays, -9223372036854775808 ≤ n ∧ n ≤ 9223372036854775807) (hv : -9223372036854775808 ≤ q.vars ∧ q.vars ≤ 9223372036854775807) : CpIn w A cA B cB q := by
  obtain ⟨A1, c1, e1, r1, r2, _⟩ := own_shape h1
  obtain ⟨A2, c2, e2, r3, r4, _⟩ := own_shape h2
  cases e1
  cases e2
  exact ⟨insRow_of_own h1, intRow_of_own h2, hok, haok, hv, ⟨r1, r2⟩, ⟨r3, r4⟩⟩
theorem PgAt.set {w : World} {P : Nat} {A : Option Addr} {lc c1 : Nat} {v : Int} {B : Option Addr} {la c2 : Nat} (h : PgAt w P A lc c1 v B la c2) {b : Nat} (hb : b ≠ P) (j : Nat) (x : Value) : PgAt (w.setCell ⟨b, j, none⟩ x) P A lc c1 v B la c2 := by
  constructor
  · rw [World.cell?_setCell_other _ _ _ _ (by simp [hb])]; exact h.g0
  · rw [World.cell?_setCell_other _ _ _ _ (by simp [hb])]; exact h.g1
  · rw [World.cell?_setCell_other _ _ _ _ (by simp [hb])]; exact h.g2
theorem IntBlk.other {w : World} {b b' : Nat} {l : List Int} (h : IntBlk w b l) (hb : b' ≠ b) (j : Nat) (x : Value) : IntBlk (w.setCell ⟨b', j, none⟩ x) b l := by
  unfold IntBlk
  rw [heap_setCell_other w ⟨b', j, none⟩ b x (fun e => hb e.symm)]
  exact h
/-- Rows of two types lie in two blocks. -/
theorem own_apart {w : World} {base base' : Nat} {e e' : TypeId} {size size' n n' c : Nat} {g : Nat} {v' : Value} {xs xs' : List Value} (h : w.ownsRow base e size (.slice (some ⟨g, 0, none⟩) n c) n xs) (h' : w.ownsRow base' e' size' v' n' xs') (hne : e ≠ e') : v'.ownBlock ≠ some g := fun he => by
  obtain ⟨c1, f1, h1⟩ := Lib.ownsRow_kind h g rfl
  obtain ⟨c2, f2, h2⟩ := Lib.ownsRow_kind h' g he
  rw [h1] at h2
  injection h2 with h2
  injection h2 with _ h2
  exact hne h2
end Go.Proofs.YtaanhkepimjelaaDoor
