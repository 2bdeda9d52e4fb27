/- What the library's functions tell call.Parse; call.uses' rows as blocks; what stays beside one block. -/
import Derived.Test.YtgphigpbgiceiaaGreatDoorParQ
import Derived.Test.YtgphigpbgiceiaaGreatDoorPk6
import Derived.Test.YtgphigpbgiceiaaGreatDoorPk7
namespace Go.Proofs.YtgphigpbgiceiaaGreatDoor
open Go.RowKit Go.Sort
set_option linter.unusedVariables false
set_option linter.unusedSimpArgs false

/-- What is laid of packages strconv and bytealg, as call.Parse asks for it. -/
structure PrsTabs (w : World) : Prop where
  most : ∃ m, w.cell? ⟨5, 0, none⟩ = some (.int .i64 m)
  bad : ∃ ev, w.cell? ⟨6, 0, none⟩ = some ev ∧ (ev = .nilIface ∨ ∃ te pe, ev = .iface te pe)
  wide : ∃ ev, w.cell? ⟨7, 0, none⟩ = some ev ∧ (ev = .nilIface ∨ ∃ te pe, ev = .iface te pe)
  calls : ∀ j, j < 22 → w.cell? ⟨2, j, none⟩ = some (.string (callWords.getD j ByteArray.empty))
theorem PrsTabs.below {w w' : World} (h : PrsTabs w) (hb : Below w.heap.size w w') : PrsTabs w' where
  most := h.most.imp fun _ h => cell_later hb h
  bad := h.bad.imp fun _ h => ⟨cell_later hb h.1, h.2⟩
  wide := h.wide.imp fun _ h => ⟨cell_later hb h.1, h.2⟩
  calls := fun j hj => cell_later hb (h.calls j hj)
theorem below_or16 {w w' : World} (h : w' = w ∨ ∃ t, w' = Lib.bytesWorld w 5 t) : Below w.heap.size w w' := by
  rcases h with rfl | ⟨t, rfl⟩
  · exact Below.refl _ _
  · exact Lib.bytesWorld_below _ _ _
theorem pint16 (s : ByteArray) (hs : s.size ≤ 100000) (w : World) (hT : PrsTabs w) :
    Calls Tryz.prog 26 #[.string s, .int .i64 10, .int .i64 64] w fun e w' => ∃ er : Value, e = .returned (.tuple #[.int .i64 (intV s.data.toList), er]) ∧ I64 (intV s.data.toList) ∧ Below w.heap.size w w' := by
  have e1 : intV s.data.toList = (match Lib.parseIntB 64 s.data.toList with | .ok v => v | .range => Lib.intSat 64 s.data.toList | _ => 0) := rfl
  have hsat : I64 (Lib.intSat 64 s.data.toList) := by
    unfold Lib.intSat I64
    split <;> decide
  cases h : Lib.parseIntB 64 s.data.toList with
  | ok v =>
    rw [h] at e1
    refine (Tryz.strconv_ParseInt_10_at64_ok s (by omega) v h w).mono ?_
    rintro e w' ⟨rfl, hw⟩
    rw [Lib.parseIntB_64] at h
    have hb := Lib.atoiAll_bounds h
    rw [e1]
    exact ⟨_, rfl, hb, below_or16 hw⟩
  | range =>
    rw [h] at e1
    obtain ⟨ev, hv, hev⟩ := hT.wide
    refine (Tryz.strconv_ParseInt_10_at64_range s (by omega) h ev w hv hev).mono ?_
    rintro e w' ⟨N, rfl, _, _, hb⟩
    rw [e1]
    exact ⟨_, rfl, hsat, hb⟩
  | _ =>
    rw [h] at e1
    obtain ⟨ev, hv, hev⟩ := hT.bad
    refine (Any.strconv_ParseInt_10_at64_syntax Tryz.laysC174 s (by omega) h ev w hv hev).mono ?_
    rintro e w' ⟨N, rfl, _, _, hb⟩
    have e0 : intV s.data.toList = 0 := e1
    rw [e0]
    exact ⟨_, rfl, (by unfold I64; omega), hb⟩
/-- What a kind uses, as a block of its own. -/
def UsesOwn (k : Int) (t : Value) (w : World) : Prop := ∃ l, (usesF k).getD [] = l ∧ ((∃ q, t = .slice (some ⟨q, 0, none⟩) l.length l.length ∧ w.heap[q]? = some (intsObj l)) ∨ (t = .slice none 0 0 ∧ l = []))
theorem UsesOwn.stay (k : Int) (u : Value) (w w' : World) (hb : Below w.heap.size w w') (h : UsesOwn k u w) : UsesOwn k u w' := by
  obtain ⟨l, h1, ⟨q, h2, h3⟩ | h2⟩ := h
  · exact ⟨l, h1, .inl ⟨q, h2, (hb.block q (Array.getElem?_eq_some_iff.1 h3).1).trans h3⟩⟩
  · exact ⟨l, h1, .inr h2⟩
set_option maxHeartbeats 4000000 in
set_option maxRecDepth 100000 in
theorem look_own (k : Int) (u : Value) (w : World) (hu : UsesAt u w) : ∃ t, (Instr.lookup 47 u (.int .u8 k) false).run Tryz.prog w = .ok t w ∧ UsesOwn k t w := by
  obtain ⟨w0, r, a, b, c, d, x, f, g, h, rfl, hI⟩ := hu
  have hrow : ∀ y ∈ usesRows a b c d x f g h, w.heap[y.1]? = some (intsObj y.2) := fun y hy => (hI.rows y hy).2
  have hL := fun res hf => run_look w r _ _ k false res hI.block hf
  by_cases k1 : k = 1 ∨ k = 2 ∨ k = 3 ∨ k = 4 ∨ k = 5
  · refine ⟨.slice (some ⟨a, 0, none⟩) 5 5, ?_, [0, 1, 2, 3, 4], by unfold usesF; rw [if_pos k1]; rfl, .inl ⟨a, rfl, hrow (a, [0, 1, 2, 3, 4]) (by simp [usesRows])⟩⟩
    rcases k1 with rfl | rfl | rfl | rfl | rfl
    all_goals exact hL (some (_, sl a 5)) rfl
  by_cases k2 : k = 6 ∨ k = 7 ∨ k = 13 ∨ k = 14
  · refine ⟨.slice (some ⟨b, 0, none⟩) 3 3, ?_, [0, 1, 2], by unfold usesF; rw [if_neg k1, if_pos k2]; rfl, .inl ⟨b, rfl, hrow (b, [0, 1, 2]) (by simp [usesRows])⟩⟩
    rcases k2 with rfl | rfl | rfl | rfl
    all_goals exact hL (some (_, sl b 3)) rfl
  by_cases k3 : k = 8 ∨ k = 9 ∨ k = 10 ∨ k = 11 ∨ k = 12
  · refine ⟨.slice (some ⟨c, 0, none⟩) 1 1, ?_, [8], by unfold usesF; rw [if_neg k1, if_neg k2, if_pos k3]; rfl, .inl ⟨c, rfl, hrow (c, [8]) (by simp [usesRows])⟩⟩
    rcases k3 with rfl | rfl | rfl | rfl | rfl
    all_goals exact hL (some (_, sl c 1)) rfl
  by_cases k4 : k = 15 ∨ k = 20 ∨ k = 22
  · refine ⟨.slice (some ⟨d, 0, none⟩) 1 1, ?_, [0], by unfold usesF; rw [if_neg k1, if_neg k2, if_neg k3, if_pos k4]; rfl, .inl ⟨d, rfl, hrow (d, [0]) (by simp [usesRows])⟩⟩
    rcases k4 with rfl | rfl | rfl
    all_goals exact hL (some (_, sl d 1)) rfl
  by_cases k5 : k = 16 ∨ k = 19
  · refine ⟨.slice (some ⟨x, 0, none⟩) 3 3, ?_, [0, 5, 3], by unfold usesF; rw [if_neg k1, if_neg k2, if_neg k3, if_neg k4, if_pos k5]; rfl, .inl ⟨x, rfl, hrow (x, [0, 5, 3]) (by simp [usesRows])⟩⟩
    rcases k5 with rfl | rfl
    all_goals exact hL (some (_, sl x 3)) rfl
  by_cases k6 : k = 17
  · refine ⟨.slice (some ⟨f, 0, none⟩) 4 4, ?_, [0, 5, 3, 9], by unfold usesF; rw [if_neg k1, if_neg k2, if_neg k3, if_neg k4, if_neg k5, if_pos k6]; rfl, .inl ⟨f, rfl, hrow (f, [0, 5, 3, 9]) (by simp [usesRows])⟩⟩
    subst k6
    exact hL (some (_, sl f 4)) rfl
  by_cases k7 : k = 18
  · refine ⟨.slice (some ⟨g, 0, none⟩) 3 3, ?_, [0, 3, 9], by unfold usesF; rw [if_neg k1, if_neg k2, if_neg k3, if_neg k4, if_neg k5, if_neg k6, if_pos k7]; rfl, .inl ⟨g, rfl, hrow (g, [0, 3, 9]) (by simp [usesRows])⟩⟩
    subst k7
    exact hL (some (_, sl g 3)) rfl
  by_cases k8 : k = 21
  · refine ⟨.slice (some ⟨h, 0, none⟩) 3 3, ?_, [0, 6, 7], by unfold usesF; rw [if_neg k1, if_neg k2, if_neg k3, if_neg k4, if_neg k5, if_neg k6, if_neg k7, if_pos k8]; rfl, .inl ⟨h, rfl, hrow (h, [0, 6, 7]) (by simp [usesRows])⟩⟩
    subst k8
    exact hL (some (_, sl h 3)) rfl
  have hN : usesF k = none := by unfold usesF; rw [if_neg k1, if_neg k2, if_neg k3, if_neg k4, if_neg k5, if_neg k6, if_neg k7, if_neg k8]
  rcases look_any k false hI with ⟨l, q, h1, _, _⟩ | ⟨_, h2⟩
  · rw [hN] at h1
    cases h1
  · exact ⟨_, h2, [], by rw [hN]; rfl, .inr ⟨rfl, rfl⟩⟩
/-- All but one block stays as it was. -/
def Kp (q : Nat) (w w' : World) : Prop := Below q w w' ∧ w.heap.size ≤ w'.heap.size ∧ ∀ b, b ≠ q → b < w.heap.size → w'.heap[b]? = w.heap[b]?
theorem Kp.refl (q : Nat) (w : World) : Kp q w w := ⟨Below.refl _ _, Nat.le_refl _, fun _ _ _ => rfl⟩
theorem Kp.later {q : Nat} {w w1 w2 : World} (h : Kp q w w1) (hq : q < w.heap.size) (hb : Below w1.heap.size w1 w2) : Kp q w w2 :=
  ⟨h.1.trans (hb.mono (by have := h.2.1; omega)), Nat.le_trans h.2.1 hb.size, fun b hn hl => (hb.block b (Nat.lt_of_lt_of_le hl h.2.1)).trans (h.2.2 b hn hl)⟩
theorem Kp.set {q : Nat} {w w1 : World} (h : Kp q w w1) (j : Nat) (v : Value) : Kp q w (w1.setCell ⟨q, j, none⟩ v) :=
  ⟨h.1.setCell (p := ⟨q, j, none⟩) (Nat.le_refl _) v, by rw [World.size_setCell]; exact h.2.1, fun b hn hl => by rw [heap_setCell_other w1 ⟨q, j, none⟩ b v hn]; exact h.2.2 b hn hl⟩
theorem Kp.grown {q : Nat} {w w1 w2 : World} {row : Option Nat} (h : Kp q w w1) (hq : q < w.heap.size) (hg : w1.grownBy w2 row) (hrow : ∀ g, row = some g → w.heap.size ≤ g) : Kp q w w2 :=
  ⟨h.1.grown hg (by have := h.2.1; omega) (fun g e => by have := hrow g e; omega), Nat.le_trans h.2.1 hg.size, fun b hn hl => (hg.block b (Nat.lt_of_lt_of_le hl h.2.1) (fun e => by have := hrow b e.symm; omega)).trans (h.2.2 b hn hl)⟩
theorem splitK_le (sep : List UInt8) : ∀ (k : Nat) (s : List UInt8), ∀ y ∈ Lib.splitK sep 0 k s, y.length ≤ s.length
  | 0, s => by
    intro y hy
    rw [Lib.splitK, List.mem_singleton] at hy
    rw [hy]
    exact Nat.le_refl _
  | k + 1, s => by
    intro y hy
    rw [Lib.splitK] at hy
    split at hy
    · rw [List.mem_singleton.1 hy]
      exact Nat.le_refl _
    · rcases List.mem_cons.1 hy with rfl | hy
      · rw [List.length_take]
        omega
      · have := splitK_le sep k _ y hy
        rw [List.length_drop] at this
        omega
theorem words_is (r : ByteArray) : (Lib.splitB ⟨#[44, 32]⟩ 0 (Lib.countB r ⟨#[44, 32]⟩) r).map (·.data.toList) = Lib.split r.data.toList [44, 32] := by
  rw [Lib.splitB_data]
  rfl
end Go.Proofs.YtgphigpbgiceiaaGreatDoor
