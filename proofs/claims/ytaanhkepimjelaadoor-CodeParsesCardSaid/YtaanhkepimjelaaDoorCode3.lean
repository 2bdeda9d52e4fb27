/- The walks of code.ways, dispatcherref05.Takes, fits, ways; rows of instructions and numbers in memory. -/
import Derived.Test.YtaanhkepimjelaaDoorCode2
namespace Go.Proofs.YtaanhkepimjelaaDoor
open Go.RowKit Go.Sort
set_option linter.unusedVariables false
set_option linter.unusedSimpArgs false

/-- What a slice of instructions reads as. -/
def InsRow (w : World) (A : Option Addr) (l : List Ins) : Prop :=
  ∀ k (hk : k < l.length), ∃ b o, A = some ⟨b, o, none⟩ ∧ b < w.heap.size ∧ w.cell? ⟨b, o + k * 2, none⟩ = some (.int .u8 l[k].op) ∧ w.cell? ⟨b, o + k * 2 + 1, none⟩ = some (.int .i64 l[k].n)
/-- What a slice of numbers reads as. -/
def IntRow (w : World) (A : Option Addr) (l : List Int) : Prop :=
  ∀ k (hk : k < l.length), ∃ b o, A = some ⟨b, o, none⟩ ∧ b < w.heap.size ∧ w.cell? ⟨b, o + k, none⟩ = some (.int .i64 l[k])
theorem InsRow.below {w w' : World} {A : Option Addr} {l : List Ins} (h : InsRow w A l) (hb : Below w.heap.size w w') : InsRow w' A l := fun k hk => by
  obtain ⟨b, o, e, hlt, h1, h2⟩ := h k hk
  exact ⟨b, o, e, Nat.lt_of_lt_of_le hlt hb.size, cell_later hb h1, cell_later hb h2⟩
theorem IntRow.below {w w' : World} {A : Option Addr} {l : List Int} (h : IntRow w A l) (hb : Below w.heap.size w w') : IntRow w' A l := fun k hk => by
  obtain ⟨b, o, e, hlt, h1⟩ := h k hk
  exact ⟨b, o, e, Nat.lt_of_lt_of_le hlt hb.size, cell_later hb h1⟩
theorem IntRow.newAt {w : World} {cs : Array Value} {t : TypeId} {b : Nat} {l : List Int} (hb : b = w.heap.size) (hcs : cs = (l.map (Value.int .i64)).toArray) : IntRow (w.alloc (.cells cs t)) (some ⟨b, 0, none⟩) l := fun k hk => by
  subst hb hcs
  refine ⟨_, _, rfl, by simp, ?_⟩
  rw [World.cell?_alloc_new]
  simp [List.getElem?_eq_getElem hk]
theorem IntRow.nil (w : World) : IntRow w none [] := fun k hk => absurd hk (Nat.not_lt_zero _)

def WaysPost (l : List Int) (w : World) (e : Ending) (w' : World) : Prop :=
  (∃ X c, e = .returned (.slice X l.length c) ∧ IntRow w' X l ∧ l.length ≤ c ∧ ∀ a, X = some a → w.heap.size ≤ a.block) ∧ Gr w w'

set_option maxHeartbeats 2000000 in
set_option maxRecDepth 100000 in
theorem ways_any (a : Nat) (i : Ins) (w : World) (ha : a ≤ 4000) :
    Calls Tryd.prog 27 #[.int .i64 a, .agg #[.int .u8 i.op, .int .i64 i.n]] w (WaysPost (waysOf a i) w) := by
  obtain ⟨op, n⟩ := i
  simp only
  obtain ⟨L, hL⟩ : ∃ L, L = waysOf a ⟨op, n⟩ := ⟨_, rfl⟩
  rw [← hL]
  unfold waysOf at hL
  simp only at hL
  by_cases h1 : op = 29
  · subst h1
    rw [if_pos rfl] at hL
    subst hL
    go_enter Tryd.func27, Tryd.ntmps27
    go_wp2_with fail
    go_ret
    refine ⟨⟨_, _, rfl, IntRow.nil _, Nat.le_refl _, fun a h => by cases h⟩, ?_⟩
    repeat (first | exact Gr.refl _ | apply Gr.drewN | apply Gr.drew | apply Gr.alloc)
  rw [if_neg h1] at hL
  by_cases h2 : op = 22
  · subst h2
    rw [if_pos rfl] at hL
    subst hL
    go_enter Tryd.func27, Tryd.ntmps27
    go_wp2_with fail
    go_ret
    refine ⟨⟨_, _, rfl, IntRow.newAt (by simp) rfl, Nat.le_refl _, fun a h => by cases h; simp⟩, ?_⟩
    repeat (first | exact Gr.refl _ | apply Gr.drewN | apply Gr.drew | apply Gr.alloc)
  rw [if_neg h2] at hL
  by_cases h3 : op = 23
  · subst h3
    rw [if_pos (Or.inl rfl)] at hL
    subst hL
    go_enter Tryd.func27, Tryd.ntmps27
    go_wp2_with fail
    go_ret
    refine ⟨⟨_, _, rfl, IntRow.newAt (by simp) rfl, Nat.le_refl _, fun a h => by cases h; simp⟩, ?_⟩
    repeat (first | exact Gr.refl _ | apply Gr.drewN | apply Gr.drew | apply Gr.alloc)
  by_cases h4 : op = 24
  · subst h4
    rw [if_pos (Or.inr rfl)] at hL
    subst hL
    go_enter Tryd.func27, Tryd.ntmps27
    go_wp2_with fail
    go_ret
    refine ⟨⟨_, _, rfl, IntRow.newAt (by simp) rfl, Nat.le_refl _, fun a h => by cases h; simp⟩, ?_⟩
    repeat (first | exact Gr.refl _ | apply Gr.drewN | apply Gr.drew | apply Gr.alloc)
  rw [if_neg (by omega)] at hL
  subst hL
  go_enter Tryd.func27, Tryd.ntmps27
  go_wp2_with fail
  go_ret
  refine ⟨⟨_, _, rfl, IntRow.newAt (by simp) rfl, Nat.le_refl _, fun a h => by cases h; simp⟩, ?_⟩
  repeat (first | exact Gr.refl _ | apply Gr.drewN | apply Gr.drew | apply Gr.alloc)

def tkR (i : Ins) : Int := if i.op = 28 then (if callMany i.n < 0 then 0 else callMany i.n) else tkOf i
theorem tkR_fits {i : Ins} (h : 0 ≤ tkOf i) : tkR i = tkOf i := by
  unfold tkR
  split
  · rename_i e
    unfold tkOf at h ⊢
    rw [if_pos e] at h ⊢
    rw [if_neg (by omega)]
  · rfl

set_option maxHeartbeats 8000000 in
set_option maxRecDepth 100000 in
theorem rtakes_any (i : Ins) (w : World) (hi : i.Ok) :
    Calls Tryd.prog 12 #[.agg #[.int .u8 i.op, .int .i64 i.n]] w fun e w' => e = .returned (.tuple #[.int .i64 (tkR i), .int .i64 (gvOf i)]) ∧ Gr w w' := by
  obtain ⟨op, n⟩ := i
  obtain ⟨⟨h0, h1⟩, h2, h3⟩ := hi
  simp only at h0 h1 h2 h3 ⊢
  have HC := Lib.hid (fun (w : World) => rcall_any n w h2 h3)
  obtain ⟨T, hT⟩ : ∃ T, T = Value.tuple #[.int .i64 (tkR ⟨op, n⟩), .int .i64 (gvOf ⟨op, n⟩)] := ⟨_, rfl⟩
  rw [← hT]
  rcases op_cases h0 h1 with hk | rfl | rfl | rfl | rfl | rfl | rfl | rfl | rfl | rfl | rfl | rfl | rfl | rfl | rfl | rfl | rfl | rfl | rfl | rfl | rfl | rfl | rfl | rfl | rfl | rfl | rfl | rfl | rfl | rfl | rfl
  · obtain ⟨e1, e2, e3⟩ := op_big (n := n) (v := 0) (la := 0) (lc := 0) hk
    unfold tkR at hT
    rw [if_neg (by simp only; omega), e1, e2] at hT
    subst hT
    clear e1 e2 e3
    go_enter Tryd.func12, Tryd.ntmps12
    go_wp2_with fail
    go_ret2
    refine ⟨rfl, ?_⟩
    repeat (first | exact Gr.refl _ | apply Gr.drewN | apply Gr.drew | apply Gr.alloc)
  all_goals
    by_cases hc : callMany n < 0
    all_goals
      have HT := Lib.hid hT
      have HCN := Lib.hid hc
      have hcall := HC.out
      first
        | simp only [if_pos hc] at hcall
        | simp only [if_neg hc] at hcall
      have HCALL := Lib.hid hcall
      clear hT hc hcall
      go_enter Tryd.func12, Tryd.ntmps12
      go_wp2_with (go_at_call 28; refine (HCALL.out _).mono ?_; rintro e w' ⟨rfl, rfl⟩)
      go_ret2
      refine ⟨ret_val ?_, ?_⟩
      · rw [HT.out]
        have hc := HCN.out
        first | (simp [tkR, tkOf, gvOf, tkTab, gvTab, hc]; done) | (simp [tkR, tkOf, gvOf, tkTab, gvTab, hc]; omega)
      · repeat (first | exact Gr.refl _ | apply Gr.drewN | apply Gr.drew | apply Gr.alloc)
end Go.Proofs.YtaanhkepimjelaaDoor
