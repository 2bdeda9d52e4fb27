/- The walks of slices.Equal over instructions and numbers, code.Same, dispatcherref05.Same. -/
import Derived.Test.YtaanhkepimjelaaDoorCode6
import Derived.Laws.StructEq
namespace Go.Proofs.YtaanhkepimjelaaDoor
open Go.RowKit Go.Sort
set_option linter.unusedVariables false
set_option linter.unusedSimpArgs false

def sameBy {α : Type} (eq : α → α → Bool) : List α → List α → Bool
  | [], [] => true
  | x :: a, y :: b => eq x y && sameBy eq a b
  | _, _ => false
theorem sameBy_len {α : Type} {eq : α → α → Bool} : ∀ {a b : List α}, a.length ≠ b.length → sameBy eq a b = false
  | [], [], h => absurd rfl h
  | [], _ :: _, _ => rfl
  | _ :: _, [], _ => rfl
  | x :: a, y :: b, h => by
    unfold sameBy
    rw [sameBy_len (a := a) (b := b) (by simpa using h), Bool.and_false]
theorem sameBy_iff {α : Type} {eq : α → α → Bool} (heq : ∀ x y, eq x y = true ↔ x = y) : ∀ {a b : List α}, sameBy eq a b = true ↔ a = b
  | [], [] => by simp [sameBy]
  | [], _ :: _ => by simp [sameBy]
  | _ :: _, [] => by simp [sameBy]
  | x :: a, y :: b => by
    unfold sameBy
    rw [Bool.and_eq_true, heq, sameBy_iff heq, List.cons.injEq]
def eqIns (i j : Ins) : Bool := i.op == j.op && i.n == j.n
theorem eqIns_iff (i j : Ins) : eqIns i j = true ↔ i = j := by
  cases i; cases j
  simp [eqIns]
def eqInt (i j : Int) : Bool := i == j
theorem eqInt_iff (i j : Int) : eqInt i j = true ↔ i = j := by simp [eqInt]
def Cp.same (p q : Cp) : Bool := (p.vars == q.vars) && sameBy eqIns p.code q.code && sameBy eqInt p.arrays q.arrays
theorem Cp.same_iff (p q : Cp) : p.same q = true ↔ p = q := by
  unfold Cp.same
  rw [Bool.and_eq_true, Bool.and_eq_true, sameBy_iff eqIns_iff, sameBy_iff eqInt_iff]
  cases p; cases q
  simp
  exact ⟨fun h => ⟨h.1.2, h.1.1, h.2⟩, fun h => ⟨⟨h.2.1, h.1⟩, h.2.2⟩⟩
theorem neq_ins (a b c d : Int) : ∀ w : World, (binOp .neq 33 (.agg #[.int .u8 a, .int .i64 b]) (.agg #[.int .u8 c, .int .i64 d])).run Tryd.prog w = .ok (.bool (!(a == c && b == d))) w := by
  intro w
  have hS : Tryd.prog.underlying 33 = some (.struct (Tryd.prog.fieldsOf 33)) := by kernel_rfl
  have hp : Tryd.prog.stoodInHeld 33 = false := by kernel_rfl
  have u1 := Tryd.underlying5
  have u2 := Tryd.underlying2
  have a1 := Tryd.isAgg5
  have a2 := Tryd.isAgg2
  have z1 := Tryd.sizeOf5
  have z2 := Tryd.sizeOf2
  rw [run_neq_struct, show (10000 : Nat) = 9999 + 1 from rfl, run_equalIn_agg w 9999 33 _ _ hS hp]
  simp only [Program.fieldsOf, Tryd.underlying33]
  go_simp
  by_cases h1 : a = c <;> by_cases h2 : b = d <;> simp [h1, h2]

set_option maxHeartbeats 2000000 in
set_option maxRecDepth 100000 in
theorem equalIns_any (A B : Option Addr) (ca cb : Nat) (l m : List Ins) (w : World) (hA : InsRow w A l) (hB : InsRow w B m) (hl : l.length ≤ 9223372036854775807) (hm : m.length ≤ 9223372036854775807) :
    Calls Tryd.prog 38 #[.slice A l.length ca, .slice B m.length cb] w fun e w' => e = .returned (.bool (sameBy eqIns l m)) ∧ ∃ n, w' = w.drewN n := by
  by_cases hlen : l.length = m.length
  · have HA := Lib.hid hA
    have HB := Lib.hid hB
    have HL := Lib.hid hlen
    have hgu : Tryd.prog.eqGuardType Tryd.prog.depth 33 = false := by kernel_rfl
    clear hA hB
    rw [← hlen]
    clear hlen hm
    go_enter Tryd.func38, Tryd.ntmps38
    go_wp2_with fail
    go_loopg [13] (l.length + 1) (fun g i wx => ∃ k : Nat, i = .int .i64 k ∧ k ≤ l.length ∧ l.length - k < g ∧ Hid (sameBy eqIns (l.drop k) (m.drop k) = sameBy eqIns l m) ∧ ∃ n, Hid (wx = w.drewN n))
    case atStart => exact ⟨0, rfl, by omega, by omega, rfl, 0, rfl⟩
    case round =>
      obtain ⟨k, rfl, hk, hg, hs, n, HW⟩ := hrel
      obtain ⟨g, rfl⟩ : ∃ g, gk = g + 1 := ⟨gk - 1, by omega⟩
      by_cases hlt : k < l.length
      · have hlt2 : k < m.length := by have := HL.out; omega
        have hunf := hs.out
        rw [List.drop_eq_getElem_cons hlt, List.drop_eq_getElem_cons hlt2, sameBy, eqIns] at hunf
        have hb : Below w.heap.size w wr := by rw [HW.out]; exact Gr.below ⟨n, #[], by rw [grow_empty]⟩
        obtain ⟨b1, o1, rfl, _, c0, c1⟩ := (HA.out.below hb) k hlt
        obtain ⟨b2, o2, rfl, _, d0, d1⟩ := (HB.out.below hb) k hlt2
        have hne := neq_ins l[k].op l[k].n m[k].op m[k].n
        have HU := Lib.hid hunf
        clear hunf hs hb
        generalize l[k].op = x1 at *
        generalize l[k].n = x2 at *
        generalize m[k].op = y1 at *
        generalize m[k].n = y2 at *
        generalize (x1 == y1 && x2 == y2) = eb at hne HU
        cases eb
        · simp only [Bool.not_false] at hne
          go_upto_region 6 with fail
          go_quiet (fail)
          clear hne c0 c1 d0 d1
          go_wp2_with fail
          go_ret
          exact ⟨ret_bool (by rw [← HU.out]; rfl), n + nq, by rw [HW.out, World.drewN_drewN]⟩
        · simp only [Bool.not_true] at hne
          go_upto_region 6 with fail
          go_quiet (fail)
          clear hne c0 c1 d0 d1
          go_wp2_with fail
          go_roundg g
          case measure => omega
          case rel => exact ⟨k + 1, by go_num, by omega, by omega, Lib.hid (by rw [← HU.out]; rfl), n + nq, Lib.hid (by rw [HW.out, World.drewN_drewN])⟩
      · have hke : k = l.length := by omega
        have hr : sameBy eqIns l m = true := by
          rw [← hs.out, hke, List.drop_length, HL.out, List.drop_length]
          rfl
        have HR := Lib.hid hr
        clear hr hs
        go_wp2_with fail
        go_ret
        exact ⟨ret_bool HR.out.symm, n, HW.out⟩
  · have hne : ((l.length : Int) != (m.length : Int)) = true := by simp; omega
    have hf := sameBy_len (eq := eqIns) hlen
    rw [hf]
    clear hf hA hB hlen
    go_enter Tryd.func38, Tryd.ntmps38
    go_wp2_with fail
    go_ret
    exact ⟨rfl, 0, rfl⟩
end Go.Proofs.YtaanhkepimjelaaDoor
