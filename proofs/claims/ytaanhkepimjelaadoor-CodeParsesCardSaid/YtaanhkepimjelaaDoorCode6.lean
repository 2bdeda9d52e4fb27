/- The walk of (code.Program).whole. -/
import Derived.Test.YtaanhkepimjelaaDoorCode5
namespace Go.Proofs.YtaanhkepimjelaaDoor
open Go.RowKit Go.Sort
set_option linter.unusedVariables false
set_option linter.unusedSimpArgs false

/-- A program's value, as it is handed over. -/
structure CpIn (w : World) (A : Option Addr) (cA : Nat) (B : Option Addr) (cB : Nat) (p : Cp) : Prop where
  code : InsRow w A p.code
  arrs : IntRow w B p.arrays
  ok : ∀ i ∈ p.code, i.Ok
  aok : ∀ n ∈ p.arrays, -9223372036854775808 ≤ n ∧ n ≤ 9223372036854775807
  vok : -9223372036854775808 ≤ p.vars ∧ p.vars ≤ 9223372036854775807
  lc : p.code.length ≤ cA ∧ cA ≤ 9223372036854775807
  la : p.arrays.length ≤ cB ∧ cB ≤ 9223372036854775807
theorem CpIn.below {w w' : World} {A B : Option Addr} {cA cB : Nat} {p : Cp} (h : CpIn w A cA B cB p) (hb : Below w.heap.size w w') : CpIn w' A cA B cB p :=
  ⟨h.code.below hb, h.arrs.below hb, h.ok, h.aok, h.vok, h.lc, h.la⟩
theorem arraysOk_stop {l : List Int} {k : Nat} (hk : k < l.length) (h : arraysOk 0 (l.take k) = true) (hx : l[k] < 1 ∨ 1000 - (l.take k).sum < l[k]) : arraysOk 0 l = false := by
  rw [arraysOk_drop l 0 k hk h]
  rcases hx with hx | hx
  · rw [decide_eq_false (by omega)]; rfl
  · rw [Bool.and_assoc, decide_eq_false (p := l[k] ≤ 1000 - (0 + (l.take k).sum)) (by omega)]; simp
theorem arraysOk_next {l : List Int} {k : Nat} (hk : k < l.length) (h : arraysOk 0 (l.take k) = true) (h1 : 1 ≤ l[k]) (h2 : l[k] ≤ 1000 - (l.take k).sum) : arraysOk 0 (l.take (k + 1)) = true ∧ (l.take (k + 1)).sum = (l.take k).sum + l[k] := by
  rw [List.take_succ_eq_append_getElem hk, arraysOk_append, h, List.sum_append]
  simp
  omega

set_option maxHeartbeats 4000000 in
set_option maxRecDepth 100000 in
theorem whole_any (A B : Option Addr) (cA cB : Nat) (p : Cp) (w : World) (hI : CpIn w A cA B cB p) :
    Calls Tryd.prog 24 #[.agg #[.slice A p.code.length cA, .int .i64 p.vars, .slice B p.arrays.length cB]] w fun e w' => e = .returned (.bool p.whole) ∧ Gr w w' := by
  have hlc := hI.lc
  have hla := hI.la
  have hvo := hI.vok
  have hbn : Below w.heap.size w (w.alloc (.cells #[.slice A p.code.length cA, .int .i64 p.vars, .slice B p.arrays.length cB] 25)) := (Below.refl _ _).alloc (Nat.le_refl _) _
  have hI1 := hI.below hbn
  have hP1 : PgAt (w.alloc (.cells #[.slice A p.code.length cA, .int .i64 p.vars, .slice B p.arrays.length cB] 25)) w.heap.size A p.code.length cA p.vars B p.arrays.length cB := PgAt.new
  have hg : Gr w (w.alloc (.cells #[.slice A p.code.length cA, .int .i64 p.vars, .slice B p.arrays.length cB] 25)) := (Gr.refl w).alloc _
  have hmf : ∀ (fn : Fn) (first cap : Array Value) (w : World), (Instr.makeFunc fn first cap).run Tryd.prog w = .ok (.func fn first cap) w := fun _ _ _ _ => rfl
  obtain ⟨R, hR⟩ : ∃ R, R = p.whole := ⟨_, rfl⟩
  rw [← hR]
  have HR := Lib.hid hR
  have HI := Lib.hid hI1
  have HG := Lib.hid hg
  clear hI hI1 hg hR hbn
  go_enter Tryd.func24, Tryd.ntmps24
  go_wp2_with fail
  generalize (w.alloc (.cells #[.slice A p.code.length cA, .int .i64 p.vars, .slice B p.arrays.length cB] 25)) = w1 at *
  have HP := Lib.hid hP1
  clear hP1
  go_loopg [3, 11] (p.arrays.length + 1) (fun g c i wx => ∃ k : Nat, c = .int .i64 ((p.arrays.take k).sum) ∧ i = .int .i64 k ∧ k ≤ p.arrays.length ∧ p.arrays.length - k < g ∧ Hid (arraysOk 0 (p.arrays.take k) = true) ∧ wx = w1)
  case atStart => exact ⟨0, rfl, rfl, by omega, by omega, rfl, rfl⟩
  case round =>
    obtain ⟨k, rfl, rfl, hk, hg, HA, rfl⟩ := hrel
    obtain ⟨g, rfl⟩ : ∃ g, gk = g + 1 := ⟨gk - 1, by omega⟩
    have hsum := arraysOk_sum _ _ HA.out (Int.le_refl _) (by decide)
    rw [Int.zero_add] at hsum
    by_cases hlt : k < p.arrays.length
    · obtain ⟨b, o, rfl, hbl, hc⟩ := HI.out.arrs k hlt
      have hxr := HI.out.aok _ (List.getElem_mem hlt)
      have HST := Lib.hid (fun h => arraysOk_stop hlt HA.out h)
      have HNX := Lib.hid (fun h1 h2 => arraysOk_next hlt HA.out h1 h2)
      generalize p.arrays[k] = x at *
      generalize (p.arrays.take k).sum = sm at *
      by_cases h1 : x < 1
      · have HF := Lib.hid (HST.out (Or.inl h1))
        go_wp2_with fail
        go_ret
        refine ⟨ret_bool ?_, HG.out⟩
        rw [HR.out]
        unfold Cp.whole
        rw [HF.out]
        rfl
      · by_cases h2 : 1000 - sm < x
        · have HF := Lib.hid (HST.out (Or.inr h2))
          go_wp2_with fail
          go_ret
          refine ⟨ret_bool ?_, HG.out⟩
          rw [HR.out]
          unfold Cp.whole
          rw [HF.out]
          rfl
        · have HN := Lib.hid (HNX.out (by omega) (by omega))
          go_wp2_with fail
          go_roundg g
          case measure => omega
          case rel => exact ⟨k + 1, by rw [HN.out.2], by go_num, by omega, by omega, Lib.hid HN.out.1, rfl⟩
    · have hke : k = p.arrays.length := by omega
      have h := HA.out
      rw [hke, List.take_length] at h
      have HH := Lib.hid h
      clear h
      have hP := HP.out
      have q0 := hP.g0
      have q1 := hP.g1
      have q2 := hP.g2
      clear hP
      by_cases a1 : p.code.length = 0
      · go_wp2_with fail
        go_ret
        refine ⟨ret_bool ?_, HG.out⟩
        rw [HR.out]
        unfold Cp.whole
        rw [a1]
        simp
      by_cases a2 : 4000 < p.code.length
      · go_wp2_with fail
        go_ret
        refine ⟨ret_bool ?_, HG.out⟩
        rw [HR.out]
        unfold Cp.whole
        rw [decide_eq_false (p := p.code.length ≤ 4000) (by omega)]
        simp
      by_cases a3 : p.vars < 0
      · go_wp2_with fail
        go_ret
        refine ⟨ret_bool ?_, HG.out⟩
        rw [HR.out]
        unfold Cp.whole
        rw [decide_eq_false (p := 0 ≤ p.vars) (by omega)]
        simp
      by_cases a4 : 64 < p.vars
      · go_wp2_with fail
        go_ret
        refine ⟨ret_bool ?_, HG.out⟩
        rw [HR.out]
        unfold Cp.whole
        rw [decide_eq_false (p := p.vars ≤ 64) (by omega)]
        simp
      obtain ⟨b, o, rfl, hbl, hc0, hc1⟩ := HI.out.code (p.code.length - 1) (by omega)
      have HC := Lib.hid (fun w' h => containsOdd_any w.heap.size (some ⟨b, o, none⟩) B p.code.length cA p.arrays.length cB p.vars p.code (some ⟨b, o, none⟩) cA w' HI.out.ok (by omega) (by omega) (by omega) (HP.out.below h) (HI.out.code.below h))
      have hb0 := Below.refl wr.heap.size wr
      have HE := Lib.hid (show p.whole = (p.code.all (fitsOf p.vars p.arrays.length p.code.length) && (p.code[p.code.length - 1]'(by omega)).op == 29) by
        unfold Cp.whole
        rw [HH.out, List.getLast?_eq_getElem?, List.getElem?_eq_getElem (by omega), decide_eq_true (p := 0 < p.code.length) (by omega), decide_eq_true (p := p.code.length ≤ 4000) (by omega), decide_eq_true (p := 0 ≤ p.vars) (by omega), decide_eq_true (p := p.vars ≤ 64) (by omega)]
        simp only [Bool.true_and, Bool.and_true, Option.any_some]
        rfl)
      have hz : ((p.code.length : Int) - 1).toNat = p.code.length - 1 := by omega
      generalize (p.code[p.code.length - 1]'(by omega)).op = op at *
      generalize p.code.all (fitsOf p.vars p.arrays.length p.code.length) = af at *
      go_wp2_with fail
      refine (HC.out _ hb0).mono ?_
      rintro r w3 ⟨rfl, hg3⟩
      have hc0 := cell_later hg3.below hc0
      have q0 := cell_later hg3.below q0
      have HG3 := Lib.hid (HG.out.trans hg3)
      clear hg3
      have HE2 := Lib.hid (HR.out.trans HE.out)
      clear HR HE HC HG hb0 hbl hc1 HI HH
      cases af
      · go_wp2_with fail
        go_ret
        exact ⟨ret_bool (by rw [HE2.out]; rfl), HG3.out⟩
      · go_wp2_with fail
        go_ret
        exact ⟨ret_bool (by rw [HE2.out]; simp), HG3.out⟩
end Go.Proofs.YtaanhkepimjelaaDoor
