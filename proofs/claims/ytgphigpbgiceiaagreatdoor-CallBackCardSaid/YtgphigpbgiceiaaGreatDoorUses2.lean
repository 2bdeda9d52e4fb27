/- What a look into call.uses' map tells. -/
import Derived.Test.YtgphigpbgiceiaaGreatDoorUses
namespace Go.Proofs.YtgphigpbgiceiaaGreatDoor
open Go.RowKit Go.Sort
set_option linter.unusedVariables false
set_option linter.unusedSimpArgs false

/-- What a kind uses, by fields' numbers. -/
def usesF (k : Int) : Option (List Int) :=
  if k = 1 ∨ k = 2 ∨ k = 3 ∨ k = 4 ∨ k = 5 then some [0, 1, 2, 3, 4]
  else if k = 6 ∨ k = 7 ∨ k = 13 ∨ k = 14 then some [0, 1, 2]
  else if k = 8 ∨ k = 9 ∨ k = 10 ∨ k = 11 ∨ k = 12 then some [8]
  else if k = 15 ∨ k = 20 ∨ k = 22 then some [0]
  else if k = 16 ∨ k = 19 then some [0, 5, 3]
  else if k = 17 then some [0, 5, 3, 9]
  else if k = 18 then some [0, 3, 9]
  else if k = 21 then some [0, 6, 7]
  else none
def lookedV (cm : Bool) (v : Value) (b : Bool) : Value := if cm = true then .tuple #[v, .bool b] else v
theorem run_look (w : World) (r c : Nat) (L : List MapEntry) (k : Int) (cm : Bool) (res : Option (Nat × Value)) (hb : w.heap[r]? = some (.map L.toArray c)) (hf : Instr.findNow (.int .u8) (.int .u8 k) L 0 = some res) :
    (Instr.lookup 47 (.map (some r)) (.int .u8 k) cm).run Tryz.prog w = .ok (match res with | some x => lookedV cm x.2 true | none => lookedV cm (.slice none 0 0) false) w := by
  have hk := Tryz.underlying5
  have hm := Tryz.underlying47
  have hc : ∀ e, (Instr.checkKey e 10000 5 (.int .u8 k)).run Tryz.prog w = .ok () w := fun e => MapKept.run_checkKey (k := .int .u8 k) hk (by simp [MapKept.IsKey]) e 9999
  have hn2 : Instr.findNow (.int .u8) (.int .u8 k) L.toArray.toList 0 = some res := by simpa using hf
  have hz : (zeroValue 22).run Tryz.prog w = .ok (.slice none 0 0) w := by kernel_rfl
  cases res with
  | none => cases cm <;> simp [Instr.lookup, run_underlying hm, MapKept.run_getObj_map hb, hc, MapKept.run_findKey hk hn2, hz, Result.andThen, lookedV]
  | some x =>
    obtain ⟨i, v⟩ := x
    cases cm <;> simp [Instr.lookup, run_underlying hm, MapKept.run_getObj_map hb, hc, MapKept.run_findKey hk hn2, Result.andThen, lookedV]
theorem row_of {w : World} {b : Nat} {l : List Int} (h : w.heap[b]? = some (intsObj l)) : IntRow w (some ⟨b, 0, none⟩) l := fun k hk => by
  refine ⟨b, 0, rfl, (Array.getElem?_eq_some_iff.1 h).1, ?_⟩
  rw [Lib.cell_of_heap h, Nat.zero_add]
  simp [hk]
theorem findNow_skip (k m : Int) (v : Value) (c : Nat) (es : List MapEntry) (i : Nat) (h : k ≠ m) : Instr.findNow (.int .u8) (.int .u8 k) (⟨.int .u8 m, v, c⟩ :: es) i = Instr.findNow (.int .u8) (.int .u8 k) es (i + 1) := by
  have e : (k == m) = false := beq_eq_false_iff_ne.2 h
  simp [Instr.findNow, Instr.sameNow, e]
set_option maxHeartbeats 4000000 in
set_option maxRecDepth 100000 in
theorem look_any (k : Int) (cm : Bool) {w0 w : World} {r a b c d x f g h : Nat} (hI : InMap w0 r (usesEnts a b c d x f g h) (usesRows a b c d x f g h) w) :
    (∃ (l : List Int) (q : Nat), usesF k = some l ∧ (Instr.lookup 47 (.map (some r)) (.int .u8 k) cm).run Tryz.prog w = .ok (lookedV cm (.slice (some ⟨q, 0, none⟩) l.length l.length) true) w ∧ IntRow w (some ⟨q, 0, none⟩) l) ∨ (usesF k = none ∧ (Instr.lookup 47 (.map (some r)) (.int .u8 k) cm).run Tryz.prog w = .ok (lookedV cm (.slice none 0 0) false) w) := by
  have hrow : ∀ y ∈ usesRows a b c d x f g h, IntRow w (some ⟨y.1, 0, none⟩) y.2 := fun y hy => row_of (hI.rows y hy).2
  have hL := fun res hf => run_look w r _ _ k cm res hI.block hf
  have ha := hrow (a, [0, 1, 2, 3, 4]) (by simp [usesRows])
  have hb := hrow (b, [0, 1, 2]) (by simp [usesRows])
  have hc := hrow (c, [8]) (by simp [usesRows])
  have hd := hrow (d, [0]) (by simp [usesRows])
  have hx := hrow (x, [0, 5, 3]) (by simp [usesRows])
  have hf := hrow (f, [0, 5, 3, 9]) (by simp [usesRows])
  have hg := hrow (g, [0, 3, 9]) (by simp [usesRows])
  have hh := hrow (h, [0, 6, 7]) (by simp [usesRows])
  by_cases k1 : k = 1 ∨ k = 2 ∨ k = 3 ∨ k = 4 ∨ k = 5
  · refine .inl ⟨[0, 1, 2, 3, 4], a, by unfold usesF; rw [if_pos k1], ?_, ha⟩
    rcases k1 with rfl | rfl | rfl | rfl | rfl
    all_goals exact hL (some (_, sl a 5)) rfl
  by_cases k2 : k = 6 ∨ k = 7 ∨ k = 13 ∨ k = 14
  · refine .inl ⟨[0, 1, 2], b, by unfold usesF; rw [if_neg k1, if_pos k2], ?_, hb⟩
    rcases k2 with rfl | rfl | rfl | rfl
    all_goals exact hL (some (_, sl b 3)) rfl
  by_cases k3 : k = 8 ∨ k = 9 ∨ k = 10 ∨ k = 11 ∨ k = 12
  · refine .inl ⟨[8], c, by unfold usesF; rw [if_neg k1, if_neg k2, if_pos k3], ?_, hc⟩
    rcases k3 with rfl | rfl | rfl | rfl | rfl
    all_goals exact hL (some (_, sl c 1)) rfl
  by_cases k4 : k = 15 ∨ k = 20 ∨ k = 22
  · refine .inl ⟨[0], d, by unfold usesF; rw [if_neg k1, if_neg k2, if_neg k3, if_pos k4], ?_, hd⟩
    rcases k4 with rfl | rfl | rfl
    all_goals exact hL (some (_, sl d 1)) rfl
  by_cases k5 : k = 16 ∨ k = 19
  · refine .inl ⟨[0, 5, 3], x, by unfold usesF; rw [if_neg k1, if_neg k2, if_neg k3, if_neg k4, if_pos k5], ?_, hx⟩
    rcases k5 with rfl | rfl
    all_goals exact hL (some (_, sl x 3)) rfl
  by_cases k6 : k = 17
  · refine .inl ⟨[0, 5, 3, 9], f, by unfold usesF; rw [if_neg k1, if_neg k2, if_neg k3, if_neg k4, if_neg k5, if_pos k6], ?_, hf⟩
    subst k6
    exact hL (some (_, sl f 4)) rfl
  by_cases k7 : k = 18
  · refine .inl ⟨[0, 3, 9], g, by unfold usesF; rw [if_neg k1, if_neg k2, if_neg k3, if_neg k4, if_neg k5, if_neg k6, if_pos k7], ?_, hg⟩
    subst k7
    exact hL (some (_, sl g 3)) rfl
  by_cases k8 : k = 21
  · refine .inl ⟨[0, 6, 7], h, by unfold usesF; rw [if_neg k1, if_neg k2, if_neg k3, if_neg k4, if_neg k5, if_neg k6, if_neg k7, if_pos k8], ?_, hh⟩
    subst k8
    exact hL (some (_, sl h 3)) rfl
  refine .inr ⟨by unfold usesF; rw [if_neg k1, if_neg k2, if_neg k3, if_neg k4, if_neg k5, if_neg k6, if_neg k7, if_neg k8], hL none ?_⟩
  unfold usesEnts
  repeat rw [findNow_skip _ _ _ _ _ _ (by omega)]
  rfl
end Go.Proofs.YtgphigpbgiceiaaGreatDoor
