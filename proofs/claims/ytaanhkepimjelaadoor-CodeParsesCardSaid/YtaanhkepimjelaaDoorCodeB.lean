/- The walk of dispatcherref05.whole. -/
import Derived.Test.YtaanhkepimjelaaDoorCode4
import Derived.Test.YtaanhkepimjelaaDoorCode6
import Derived.Shelf.SlSortCmp.QuietGrown
namespace Go.Proofs.YtaanhkepimjelaaDoor
open Go.RowKit Go.Sort
set_option linter.unusedVariables false
set_option linter.unusedSimpArgs false

set_option maxHeartbeats 8000000 in
set_option maxRecDepth 100000 in
theorem rwhole_any (A B : Option Addr) (cA cB : Nat) (p : Cp) (w : World) (hI : CpIn w A cA B cB p) :
    Calls Tryd.prog 29 #[.agg #[.slice A p.code.length cA, .int .i64 p.vars, .slice B p.arrays.length cB]] w fun e w' => e = .returned (.bool p.whole) ∧ Gr w w' := by
  have mixed : Tryd.prog.follows .mixedOrders = true := by kernel_rfl
  have hlc := hI.lc
  have hla := hI.la
  have hvo := hI.vok
  have hbn : Below w.heap.size w (w.alloc (.cells #[.slice A p.code.length cA, .int .i64 p.vars, .slice B p.arrays.length cB] 25)) := (Below.refl _ _).alloc (Nat.le_refl _) _
  have hI1 := hI.below hbn
  have hP1 : PgAt (w.alloc (.cells #[.slice A p.code.length cA, .int .i64 p.vars, .slice B p.arrays.length cB] 25)) w.heap.size A p.code.length cA p.vars B p.arrays.length cB := PgAt.new
  have hg : Gr w (w.alloc (.cells #[.slice A p.code.length cA, .int .i64 p.vars, .slice B p.arrays.length cB] 25)) := (Gr.refl w).alloc _
  have hPl : w.heap.size < (w.alloc (.cells #[.slice A p.code.length cA, .int .i64 p.vars, .slice B p.arrays.length cB] 25)).heap.size := by simp
  obtain ⟨R, hR⟩ : ∃ R, R = p.whole := ⟨_, rfl⟩
  rw [← hR]
  have HR := Lib.hid hR
  have HI := Lib.hid hI1
  have HG := Lib.hid hg
  clear hI hI1 hg hR hbn
  by_cases a1 : p.code.length = 0
  · have HF := Lib.hid (show p.whole = false by unfold Cp.whole; rw [a1]; simp)
    clear HI hP1 hPl
    go_enter Tryd.func29, Tryd.ntmps29
    go_wp2_with fail
    go_ret
    exact ⟨ret_bool (by rw [HR.out, HF.out]), (Gr.refl _).alloc _⟩
  by_cases a2 : 4000 < p.code.length
  · have HF := Lib.hid (show p.whole = false by unfold Cp.whole; rw [decide_eq_false (p := p.code.length ≤ 4000) (by omega)]; simp)
    clear HI hP1 hPl
    go_enter Tryd.func29, Tryd.ntmps29
    go_wp2_with fail
    go_ret
    exact ⟨ret_bool (by rw [HR.out, HF.out]), HG.out⟩
  by_cases a3 : p.vars < 0
  · have HF := Lib.hid (show p.whole = false by unfold Cp.whole; rw [decide_eq_false (p := 0 ≤ p.vars) (by omega)]; simp)
    clear HI hP1 hPl
    go_enter Tryd.func29, Tryd.ntmps29
    go_wp2_with fail
    go_ret
    exact ⟨ret_bool (by rw [HR.out, HF.out]), HG.out⟩
  by_cases a4 : 64 < p.vars
  · have HF := Lib.hid (show p.whole = false by unfold Cp.whole; rw [decide_eq_false (p := p.vars ≤ 64) (by omega)]; simp)
    clear HI hP1 hPl
    go_enter Tryd.func29, Tryd.ntmps29
    go_wp2_with fail
    go_ret
    exact ⟨ret_bool (by rw [HR.out, HF.out]), HG.out⟩
  obtain ⟨b, o, rfl, hbl, hc0, _⟩ := HI.out.code (p.code.length - 1) (by omega)
  have hz : ((p.code.length : Int) - 1).toNat = p.code.length - 1 := by omega
  have HL := Lib.hid (show p.code.getLast? = some (p.code[p.code.length - 1]'(by omega)) by rw [List.getLast?_eq_getElem?, List.getElem?_eq_getElem (by omega)])
  generalize (p.code[p.code.length - 1]'(by omega)) = il at *
  by_cases o29 : il.op = 29
  case neg =>
    have HF := Lib.hid (show p.whole = false by unfold Cp.whole; rw [HL.out]; simp [o29])
    generalize il.op = op at *
    have f1 : (op != 29) = true := by simpa using o29
    clear HI o29 HL
    go_enter Tryd.func29, Tryd.ntmps29
    go_wp2_with fail
    go_ret
    exact ⟨ret_bool (by rw [HR.out, HF.out]), HG.out⟩
  case pos =>
    rw [o29] at hc0
    have HE := Lib.hid (show p.whole = (arraysOk 0 p.arrays && p.code.all (fitsOf p.vars p.arrays.length p.code.length)) by
      unfold Cp.whole
      rw [HL.out, decide_eq_true (p := 0 < p.code.length) (by omega), decide_eq_true (p := p.code.length ≤ 4000) (by omega), decide_eq_true (p := 0 ≤ p.vars) (by omega), decide_eq_true (p := p.vars ≤ 64) (by omega)]
      simp only [Option.any_some, o29]
      rw [show ((29 : Int) == 29) = true from rfl]
      simp only [Bool.and_true]
      rfl)
    have t1 : decide ((p.code.length : Int) < 1) = false := by simp; omega
    have t2 : decide ((4000 : Int) < (p.code.length : Int)) = false := by simp; omega
    have t3 : decide (p.vars < 0) = false := by simp; omega
    have t4 : decide (64 < p.vars) = false := by simp; omega
    clear HL o29
    go_enter Tryd.func29, Tryd.ntmps29
    go_wp2_with fail
    generalize (w.alloc (.cells #[.slice (some ⟨b, o, none⟩) p.code.length cA, .int .i64 p.vars, .slice B p.arrays.length cB] 25)) = w1 at *
    have HP := Lib.hid hP1
    clear hP1 hc0 hbl
    go_loopg [3, 4] (p.arrays.length + 1) (fun g c i wx => ∃ k : Nat, c = .int .i64 ((p.arrays.take k).sum) ∧ i = .int .i64 k ∧ k ≤ p.arrays.length ∧ p.arrays.length - k < g ∧ Hid (arraysOk 0 (p.arrays.take k) = true) ∧ wx = w1)
    case atStart => exact ⟨0, rfl, rfl, by omega, by omega, rfl, rfl⟩
    case round =>
      obtain ⟨k, rfl, rfl, hk, hg, HA, rfl⟩ := hrel
      obtain ⟨g, rfl⟩ : ∃ g, gk = g + 1 := ⟨gk - 1, by omega⟩
      have hsum := arraysOk_sum _ _ HA.out (Int.le_refl _) (by decide)
      rw [Int.zero_add] at hsum
      have q2 := HP.out.g2
      by_cases hlt : k < p.arrays.length
      · obtain ⟨b2, o2, rfl, hb2, hc⟩ := HI.out.arrs k hlt
        have hxr := HI.out.aok _ (List.getElem_mem hlt)
        have HST := Lib.hid (fun h => arraysOk_stop hlt HA.out h)
        have HNX := Lib.hid (fun h1 h2 => arraysOk_next hlt HA.out h1 h2)
        generalize p.arrays[k] = x at *
        generalize (p.arrays.take k).sum = sm at *
        by_cases h1 : x < 1
        · have HF := Lib.hid (HST.out (Or.inl h1))
          go_wp2_with fail
          go_ret
          exact ⟨ret_bool (by rw [HR.out, HE.out, HF.out]; rfl), HG.out⟩
        · by_cases h2 : 1000 - sm < x
          · have HF := Lib.hid (HST.out (Or.inr h2))
            by_cases h3 : 1000 < x
            all_goals
              go_wp2_with fail
              go_ret
              exact ⟨ret_bool (by rw [HR.out, HE.out, HF.out]; rfl), HG.out⟩
          · have HN := Lib.hid (HNX.out (by omega) (by omega))
            have h3 : x ≤ 1000 := by omega
            go_wp2_with fail
            go_roundg g
            case measure => omega
            case rel => exact ⟨k + 1, by rw [HN.out.2], by go_num, by omega, by omega, Lib.hid HN.out.1, rfl⟩
      · have hke : k = p.arrays.length := by omega
        subst hke
        have h := HA.out
        rw [List.take_length] at h ⊢
        have HE2 := Lib.hid (show R = p.code.all (fitsOf p.vars p.arrays.length p.code.length) by rw [HR.out, HE.out, h]; rfl)
        clear h HA hsum HE HR
        go_wp2_with fail
        clear q2
        generalize hw2 : wr = w2 at *
        clear hw2
        go_loopg [5] (p.code.length + 1) (fun g i wx => ∃ k : Nat, i = .int .i64 k ∧ k ≤ p.code.length ∧ p.code.length - k < g ∧ Hid ((p.code.take k).all (fitsOf p.vars p.arrays.length p.code.length) = true) ∧ Hid (Gr w2 wx))
        case atStart => exact ⟨0, rfl, by omega, by omega, rfl, Gr.refl _⟩
        case round =>
          obtain ⟨k2, rfl, hk2, hg2, HALL, HGR⟩ := hrel
          obtain ⟨g2, rfl⟩ : ∃ g2, gk = g2 + 1 := ⟨gk - 1, by omega⟩
          have hP := HP.out.below HGR.out.below
          have hPl2 : w.heap.size < wr.heap.size := World.block_lt_of_cell? _ _ hP.g0
          by_cases hlt2 : k2 < p.code.length
          · obtain ⟨b3, o3, hA, hb3, d0, d1⟩ := (HI.out.below HGR.out.below).code k2 hlt2
            cases hA
            have hok := HI.out.ok _ (List.getElem_mem hlt2)
            have HTK := Lib.hid (all_take (fitsOf p.vars p.arrays.length p.code.length) p.code k2 hlt2)
            have HNO := Lib.hid (fun h => all_not (p := fitsOf p.vars p.arrays.length p.code.length) (l := p.code) (k := k2) hlt2 h)
            have HF := Lib.hid (fun w' => rfits_any (some ⟨b, o, none⟩) B p.code.length cA p.arrays.length cB p.vars p.code[k2] w' hok hvo (by omega) (by omega))
            have k0 := fun n os => cell_grown (w := wr) hPl2 hP.g0 n os
            have k1 := fun n os => cell_grown (w := wr) hPl2 hP.g1 n os
            have k2' := fun n os => cell_grown (w := wr) hPl2 hP.g2 n os
            have k3 := fun n os => cell_grown (w := wr) hb3 d0 n os
            have k4 := fun n os => cell_grown (w := wr) hb3 d1 n os
            have q0 := hP.g0
            clear hok hP
            generalize p.code[k2] = xi at *
            go_upto_region 13 with fail
            clear q0
            go_quiet_grown (exact Calls.grown_of (HF.out _))
            have HG6 := Lib.hid (HGR.out.trans ⟨nq, osq, rfl⟩)
            clear k0 k1 k2' k3 k4 HF d0 d1 hb3
            generalize grow (wr.drewN nq) osq = w6 at *
            cases hx : fitsOf p.vars p.arrays.length p.code.length xi
            · have HFF := Lib.hid (HNO.out hx)
              clear hx
              go_wp2_with fail
              go_ret
              exact ⟨ret_bool (by rw [HE2.out, HFF.out]), HG.out.trans HG6.out⟩
            · have HX := Lib.hid hx
              clear hx
              go_wp2_with fail
              go_roundg g2
              case measure => omega
              case rel => exact ⟨k2 + 1, by go_num, by omega, by omega, Lib.hid (by rw [HTK.out, HALL.out, HX.out]; rfl), HG6⟩
          · have hke2 : k2 = p.code.length := by omega
            have h := HALL.out
            rw [hke2, List.take_length] at h
            have HH := Lib.hid h
            have q0 := hP.g0
            clear h hP
            go_wp2_with fail
            go_ret
            exact ⟨ret_bool (by rw [HE2.out, HH.out]), HG.out.trans HGR.out⟩
end Go.Proofs.YtaanhkepimjelaaDoor
