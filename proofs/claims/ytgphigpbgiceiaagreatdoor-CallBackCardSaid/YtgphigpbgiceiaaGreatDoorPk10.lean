/- What is trim by letters is trim by fields. · slices.Equal over whole numbers (as in chapter 05's texts, for other seats). -/
import Derived.Test.YtgphigpbgiceiaaGreatDoorClTrim
import Derived.Test.YtgphigpbgiceiaaGreatDoorPk0
import Derived.BigQuiet
import Derived.Deep.Cut
namespace Go.Proofs.YtgphigpbgiceiaaGreatDoor
open Go.RowKit Go.Sort
set_option linter.unusedVariables false
set_option linter.unusedSimpArgs false

/-- Fields and letters, of one kind. -/
theorem trim_law (c : Cl) (hop : 0 ≤ c.op ∧ c.op ≤ 255) (lf : List Int) (ls : List UInt8) (hF : usesF c.kind = some lf) (hS : usesS c.kind = ls) (hne : ls ≠ [])
    (h : lf.foldl (stepF c) (initF c) = ⟨c.kind, pickI (ls.contains 99) c.comm, pickI (ls.contains 112) c.peer, pickI (ls.contains 116) c.tag, pickI (ls.contains 118) c.value, pickI (ls.contains 115) c.size, pickI (ls.contains 114) c.root, pickI (ls.contains 111) c.op, pickL (ls.contains 108) c.reqs, pickI (ls.contains 107) c.color, pickI (ls.contains 107) c.key⟩) : trimF c = rtrim c := by
  unfold trimF rtrim
  rw [hF, hS, if_neg hne]
  exact h
theorem trim_same (c : Cl) (hop : 0 ≤ c.op ∧ c.op ≤ 255) : trimF c = rtrim c := by
  have hm : c.op % 256 = c.op := by omega
  by_cases k1 : c.kind = 1 ∨ c.kind = 2 ∨ c.kind = 3 ∨ c.kind = 4 ∨ c.kind = 5
  · exact trim_law c hop [0, 1, 2, 3, 4] [99, 112, 116, 118, 115] (by unfold usesF; rw [if_pos k1]) (by unfold usesS; rw [if_pos k1]) (by simp) (by simp [stepF, setF, getF, initF, pickI, pickL, hm])
  by_cases k2 : c.kind = 6 ∨ c.kind = 7 ∨ c.kind = 13 ∨ c.kind = 14
  · exact trim_law c hop [0, 1, 2] [99, 112, 116] (by unfold usesF; rw [if_neg k1, if_pos k2]) (by unfold usesS; rw [if_neg k1, if_pos k2]) (by simp) (by simp [stepF, setF, getF, initF, pickI, pickL, hm])
  by_cases k3 : c.kind = 8 ∨ c.kind = 9 ∨ c.kind = 10 ∨ c.kind = 11 ∨ c.kind = 12
  · exact trim_law c hop [8] [108] (by unfold usesF; rw [if_neg k1, if_neg k2, if_pos k3]) (by unfold usesS; rw [if_neg k1, if_neg k2, if_pos k3]) (by simp) (by simp [stepF, setF, getF, initF, pickI, pickL, hm])
  by_cases k4 : c.kind = 15 ∨ c.kind = 20 ∨ c.kind = 22
  · exact trim_law c hop [0] [99] (by unfold usesF; rw [if_neg k1, if_neg k2, if_neg k3, if_pos k4]) (by unfold usesS; rw [if_neg k1, if_neg k2, if_neg k3, if_pos k4]) (by simp) (by simp [stepF, setF, getF, initF, pickI, pickL, hm])
  by_cases k5 : c.kind = 16 ∨ c.kind = 19
  · exact trim_law c hop [0, 5, 3] [99, 114, 118] (by unfold usesF; rw [if_neg k1, if_neg k2, if_neg k3, if_neg k4, if_pos k5]) (by unfold usesS; rw [if_neg k1, if_neg k2, if_neg k3, if_neg k4, if_pos k5]) (by simp) (by simp [stepF, setF, getF, initF, pickI, pickL, hm])
  by_cases k6 : c.kind = 17
  · exact trim_law c hop [0, 5, 3, 9] [99, 114, 118, 111] (by unfold usesF; rw [if_neg k1, if_neg k2, if_neg k3, if_neg k4, if_neg k5, if_pos k6]) (by unfold usesS; rw [if_neg k1, if_neg k2, if_neg k3, if_neg k4, if_neg k5, if_pos k6]) (by simp) (by simp [stepF, setF, getF, initF, pickI, pickL, hm])
  by_cases k7 : c.kind = 18
  · exact trim_law c hop [0, 3, 9] [99, 118, 111] (by unfold usesF; rw [if_neg k1, if_neg k2, if_neg k3, if_neg k4, if_neg k5, if_neg k6, if_pos k7]) (by unfold usesS; rw [if_neg k1, if_neg k2, if_neg k3, if_neg k4, if_neg k5, if_neg k6, if_pos k7]) (by simp) (by simp [stepF, setF, getF, initF, pickI, pickL, hm])
  by_cases k8 : c.kind = 21
  · exact trim_law c hop [0, 6, 7] [99, 107] (by unfold usesF; rw [if_neg k1, if_neg k2, if_neg k3, if_neg k4, if_neg k5, if_neg k6, if_neg k7, if_pos k8]) (by unfold usesS; rw [if_neg k1, if_neg k2, if_neg k3, if_neg k4, if_neg k5, if_neg k6, if_neg k7, if_pos k8]) (by simp) (by simp [stepF, setF, getF, initF, pickI, pickL, hm])
  unfold trimF rtrim
  rw [show usesF c.kind = none by unfold usesF; rw [if_neg k1, if_neg k2, if_neg k3, if_neg k4, if_neg k5, if_neg k6, if_neg k7, if_neg k8], show usesS c.kind = [] by unfold usesS; rw [if_neg k1, if_neg k2, if_neg k3, if_neg k4, if_neg k5, if_neg k6, if_neg k7, if_neg k8]]
  rfl
end Go.Proofs.YtgphigpbgiceiaaGreatDoor
namespace Go.Proofs.YtgphigpbgiceiaaGreatDoor
open Go.RowKit Go.Sort
set_option linter.unusedVariables false
set_option linter.unusedSimpArgs false

def sameBy {α : Type} (eq : α → α → Bool) : List α → List α → Bool
  | [], [] => true
  | x :: a, y :: b => eq x y && sameBy eq a b
  | _, _ => false
theorem sameBy_len {α : Type} {eq : α → α → Bool} : ∀ {a b : List α}, a.length ≠ b.length → sameBy eq a b = false
  | [], [], h => absurd rfl h
  | [], _ :: _, _ => rfl
  | _ :: _, [], _ => rfl
  | x :: a, y :: b, h => by
    unfold sameBy
    rw [sameBy_len (a := a) (b := b) (by simpa using h), Bool.and_false]
theorem sameBy_iff {α : Type} {eq : α → α → Bool} (heq : ∀ x y, eq x y = true ↔ x = y) : ∀ {a b : List α}, sameBy eq a b = true ↔ a = b
  | [], [] => by simp [sameBy]
  | [], _ :: _ => by simp [sameBy]
  | _ :: _, [] => by simp [sameBy]
  | x :: a, y :: b => by
    unfold sameBy
    rw [Bool.and_eq_true, heq, sameBy_iff heq, List.cons.injEq]
def eqInt (i j : Int) : Bool := i == j
theorem eqInt_iff (i j : Int) : eqInt i j = true ↔ i = j := by simp [eqInt]
set_option maxHeartbeats 2000000 in
set_option maxRecDepth 100000 in
theorem equalInts_any (A B : Option Addr) (ca cb : Nat) (l m : List Int) (w : World) (hA : IntRow w A l) (hB : IntRow w B m) (hl : l.length ≤ 9223372036854775807) (hm : m.length ≤ 9223372036854775807) :
    Calls Tryz.prog 35 #[.slice A l.length ca, .slice B m.length cb] w fun e w' => e = .returned (.bool (sameBy eqInt l m)) ∧ ∃ n, w' = w.drewN n := by
  by_cases hlen : l.length = m.length
  · have HA := Lib.hid hA
    have HB := Lib.hid hB
    have HL := Lib.hid hlen
    clear hA hB
    rw [← hlen]
    clear hlen hm
    go_enter Tryz.func35, Tryz.ntmps35
    go_wp2_with fail
    go_loopg [13] (l.length + 1) (fun g i wx => ∃ k : Nat, i = .int .i64 k ∧ k ≤ l.length ∧ l.length - k < g ∧ Hid (sameBy eqInt (l.drop k) (m.drop k) = sameBy eqInt l m) ∧ ∃ n, Hid (wx = w.drewN n))
    case atStart => exact ⟨0, rfl, by omega, by omega, rfl, 0, rfl⟩
    case round =>
      obtain ⟨k, rfl, hk, hg, hs, n, HW⟩ := hrel
      obtain ⟨g, rfl⟩ : ∃ g, gk = g + 1 := ⟨gk - 1, by omega⟩
      by_cases hlt : k < l.length
      · have hlt2 : k < m.length := by have := HL.out; omega
        have hunf := hs.out
        rw [List.drop_eq_getElem_cons hlt, List.drop_eq_getElem_cons hlt2, sameBy, eqInt] at hunf
        have hb : Below w.heap.size w wr := by rw [HW.out]; exact Gr.below ⟨n, #[], by rw [grow_empty]⟩
        obtain ⟨b1, o1, rfl, _, c0⟩ := (HA.out.below hb) k hlt
        obtain ⟨b2, o2, rfl, _, d0⟩ := (HB.out.below hb) k hlt2
        have hne : ∃ e, (l[k] == m[k]) = e := ⟨_, rfl⟩
        obtain ⟨eb, hne⟩ := hne
        rw [hne] at hunf
        have HU := Lib.hid hunf
        clear hunf hs hb
        generalize l[k] = x1 at *
        generalize m[k] = y1 at *
        cases eb
        · have hne2 : (x1 != y1) = true := by rw [bne, hne]; rfl
          go_upto_region 6 with fail
          go_quiet (fail)
          clear hne hne2 c0 d0
          go_wp2_with fail
          go_ret
          exact ⟨ret_bool (by rw [← HU.out]; rfl), n + nq, by rw [HW.out, World.drewN_drewN]⟩
        · have hne2 : (x1 != y1) = false := by rw [bne, hne]; rfl
          go_upto_region 6 with fail
          go_quiet (fail)
          clear hne hne2 c0 d0
          go_wp2_with fail
          go_roundg g
          case measure => omega
          case rel => exact ⟨k + 1, by go_num, by omega, by omega, Lib.hid (by rw [← HU.out]; rfl), n + nq, Lib.hid (by rw [HW.out, World.drewN_drewN])⟩
      · have hke : k = l.length := by omega
        have hr : sameBy eqInt l m = true := by
          rw [← hs.out, hke, List.drop_length, HL.out, List.drop_length]
          rfl
        have HR := Lib.hid hr
        clear hr hs
        go_wp2_with fail
        go_ret
        exact ⟨ret_bool HR.out.symm, n, HW.out⟩
  · have hne : ((l.length : Int) != (m.length : Int)) = true := by simp; omega
    have hf := sameBy_len (eq := eqInt) hlen
    rw [hf]
    clear hf hA hB hlen
    go_enter Tryz.func35, Tryz.ntmps35
    go_wp2_with fail
    go_ret
    exact ⟨rfl, 0, rfl⟩

end Go.Proofs.YtgphigpbgiceiaaGreatDoor
