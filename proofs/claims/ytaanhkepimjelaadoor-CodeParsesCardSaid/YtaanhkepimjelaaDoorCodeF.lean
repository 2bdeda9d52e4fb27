/- The walks of slices.Equal over numbers, code.Same, dispatcherref05.Same, dispatcherref05.May. -/
import Derived.Test.YtaanhkepimjelaaDoorCodeE
import Derived.Test.YtaanhkepimjelaaDoorCodeH
namespace Go.Proofs.YtaanhkepimjelaaDoor
open Go.RowKit Go.Sort
set_option linter.unusedVariables false
set_option linter.unusedSimpArgs false

set_option maxHeartbeats 2000000 in
set_option maxRecDepth 100000 in
theorem equalInts_any (A B : Option Addr) (ca cb : Nat) (l m : List Int) (w : World) (hA : IntRow w A l) (hB : IntRow w B m) (hl : l.length ≤ 9223372036854775807) (hm : m.length ≤ 9223372036854775807) :
    Calls Tryd.prog 39 #[.slice A l.length ca, .slice B m.length cb] w fun e w' => e = .returned (.bool (sameBy eqInt l m)) ∧ ∃ n, w' = w.drewN n := by
  by_cases hlen : l.length = m.length
  · have HA := Lib.hid hA
    have HB := Lib.hid hB
    have HL := Lib.hid hlen
    clear hA hB
    rw [← hlen]
    clear hlen hm
    go_enter Tryd.func39, Tryd.ntmps39
    go_wp2_with fail
    go_loopg [13] (l.length + 1) (fun g i wx => ∃ k : Nat, i = .int .i64 k ∧ k ≤ l.length ∧ l.length - k < g ∧ Hid (sameBy eqInt (l.drop k) (m.drop k) = sameBy eqInt l m) ∧ ∃ n, Hid (wx = w.drewN n))
    case atStart => exact ⟨0, rfl, by omega, by omega, rfl, 0, rfl⟩
    case round =>
      obtain ⟨k, rfl, hk, hg, hs, n, HW⟩ := hrel
      obtain ⟨g, rfl⟩ : ∃ g, gk = g + 1 := ⟨gk - 1, by omega⟩
      by_cases hlt : k < l.length
      · have hlt2 : k < m.length := by have := HL.out; omega
        have hunf := hs.out
        rw [List.drop_eq_getElem_cons hlt, List.drop_eq_getElem_cons hlt2, sameBy, eqInt] at hunf
        have hb : Below w.heap.size w wr := by rw [HW.out]; exact Gr.below ⟨n, #[], by rw [grow_empty]⟩
        obtain ⟨b1, o1, rfl, _, c0⟩ := (HA.out.below hb) k hlt
        obtain ⟨b2, o2, rfl, _, d0⟩ := (HB.out.below hb) k hlt2
        have hne : ∃ e, (l[k] == m[k]) = e := ⟨_, rfl⟩
        obtain ⟨eb, hne⟩ := hne
        rw [hne] at hunf
        have HU := Lib.hid hunf
        clear hunf hs hb
        generalize l[k] = x1 at *
        generalize m[k] = y1 at *
        cases eb
        · have hne2 : (x1 != y1) = true := by rw [bne, hne]; rfl
          go_upto_region 6 with fail
          go_quiet (fail)
          clear hne hne2 c0 d0
          go_wp2_with fail
          go_ret
          exact ⟨ret_bool (by rw [← HU.out]; rfl), n + nq, by rw [HW.out, World.drewN_drewN]⟩
        · have hne2 : (x1 != y1) = false := by rw [bne, hne]; rfl
          go_upto_region 6 with fail
          go_quiet (fail)
          clear hne hne2 c0 d0
          go_wp2_with fail
          go_roundg g
          case measure => omega
          case rel => exact ⟨k + 1, by go_num, by omega, by omega, Lib.hid (by rw [← HU.out]; rfl), n + nq, Lib.hid (by rw [HW.out, World.drewN_drewN])⟩
      · have hke : k = l.length := by omega
        have hr : sameBy eqInt l m = true := by
          rw [← hs.out, hke, List.drop_length, HL.out, List.drop_length]
          rfl
        have HR := Lib.hid hr
        clear hr hs
        go_wp2_with fail
        go_ret
        exact ⟨ret_bool HR.out.symm, n, HW.out⟩
  · have hne : ((l.length : Int) != (m.length : Int)) = true := by simp; omega
    have hf := sameBy_len (eq := eqInt) hlen
    rw [hf]
    clear hf hA hB hlen
    go_enter Tryd.func39, Tryd.ntmps39
    go_wp2_with fail
    go_ret
    exact ⟨rfl, 0, rfl⟩

theorem same_vars {p q : Cp} (h : p.vars ≠ q.vars) : p.same q = false := by
  unfold Cp.same
  rw [show (p.vars == q.vars) = false by simpa using h]
  rfl
theorem same_code {p q : Cp} (h : sameBy eqIns p.code q.code = false) : p.same q = false := by
  unfold Cp.same
  rw [h, Bool.and_false, Bool.false_and]
theorem same_arrs {p q : Cp} (h : sameBy eqInt p.arrays q.arrays = false) : p.same q = false := by
  unfold Cp.same
  rw [h, Bool.and_false]
theorem same_all {p q : Cp} (h : p.vars = q.vars) (h1 : sameBy eqIns p.code q.code = true) (h2 : sameBy eqInt p.arrays q.arrays = true) : p.same q = true := by
  unfold Cp.same
  rw [h, h1, h2]
  simp

set_option maxHeartbeats 4000000 in
set_option maxRecDepth 100000 in
theorem same_any (A B A2 B2 : Option Addr) (cA cB cA2 cB2 : Nat) (p q : Cp) (w : World) (hP : CpIn w A cA B cB p) (hQ : CpIn w A2 cA2 B2 cB2 q) :
    Calls Tryd.prog 19 #[.agg #[.slice A p.code.length cA, .int .i64 p.vars, .slice B p.arrays.length cB], .agg #[.slice A2 q.code.length cA2, .int .i64 q.vars, .slice B2 q.arrays.length cB2]] w fun e w' => e = .returned (.bool (p.same q)) ∧ Below w.heap.size w w' := by
  have hb1 : Below w.heap.size w ((w.alloc (.cells #[.slice A p.code.length cA, .int .i64 p.vars, .slice B p.arrays.length cB] 25)).alloc (.cells #[.slice A2 q.code.length cA2, .int .i64 q.vars, .slice B2 q.arrays.length cB2] 25)) := ((Below.refl _ _).alloc (Nat.le_refl _) _).alloc (by simp) _
  have hP1 : PgAt ((w.alloc (.cells #[.slice A p.code.length cA, .int .i64 p.vars, .slice B p.arrays.length cB] 25)).alloc (.cells #[.slice A2 q.code.length cA2, .int .i64 q.vars, .slice B2 q.arrays.length cB2] 25)) w.heap.size A p.code.length cA p.vars B p.arrays.length cB := PgAt.new.below ((Below.refl _ _).alloc (Nat.le_refl _) _)
  have hQ1 : PgAt ((w.alloc (.cells #[.slice A p.code.length cA, .int .i64 p.vars, .slice B p.arrays.length cB] 25)).alloc (.cells #[.slice A2 q.code.length cA2, .int .i64 q.vars, .slice B2 q.arrays.length cB2] 25)) (w.alloc (.cells #[.slice A p.code.length cA, .int .i64 p.vars, .slice B p.arrays.length cB] 25)).heap.size A2 q.code.length cA2 q.vars B2 q.arrays.length cB2 := PgAt.new
  have HP := Lib.hid (hP.below hb1)
  have HQ := Lib.hid (hQ.below hb1)
  have hlc := hP.lc
  have hla := hP.la
  have hlc2 := hQ.lc
  have hla2 := hQ.la
  have HB := Lib.hid hb1
  clear hP hQ hb1
  go_enter Tryd.func19, Tryd.ntmps19
  go_upto_region 1 with fail
  generalize (w.alloc (.cells #[.slice A p.code.length cA, .int .i64 p.vars, .slice B p.arrays.length cB] 25)).alloc (.cells #[.slice A2 q.code.length cA2, .int .i64 q.vars, .slice B2 q.arrays.length cB2] 25) = w1 at *
  have hsz : (w.alloc (.cells #[.slice A p.code.length cA, .int .i64 p.vars, .slice B p.arrays.length cB] 25)).heap.size = w.heap.size + 1 := by simp
  rw [hsz] at hQ1
  have q0 := hP1.g0
  have q1 := hP1.g1
  have q2 := hP1.g2
  have r0 := hQ1.g0
  have r1 := hQ1.g1
  have r2 := hQ1.g2
  by_cases hv : p.vars = q.vars
  case neg =>
    have HS := Lib.hid (same_vars hv)
    have hv2 : (p.vars == q.vars) = false := by simpa using hv
    clear hv
    go_wp2_with fail
    go_ret
    exact ⟨ret_bool HS.out.symm, HB.out⟩
  have hv2 : (p.vars == q.vars) = true := by simpa using hv
  have HV := Lib.hid hv
  clear hv
  go_wp2_with fail
  refine (equalIns_any A A2 cA cA2 p.code q.code w1 HP.out.code HQ.out.code (by omega) (by omega)).mono ?_
  rintro e w2 ⟨rfl, n, hw2⟩
  have hg2 : Below w1.heap.size w1 w2 := by rw [hw2]; exact Gr.below ⟨n, #[], by rw [grow_empty]⟩
  have hP2 := hP1.below hg2
  have hQ2 := hQ1.below hg2
  have HB2 := Lib.hid (HB.out.trans (hg2.mono HB.out.size))
  have HPR := Lib.hid (HP.out.below hg2)
  have HQR := Lib.hid (HQ.out.below hg2)
  clear q0 q1 q2 r0 r1 r2 hP1 hQ1 hg2 hw2
  have q2 := hP2.g2
  have r2 := hQ2.g2
  cases hc : sameBy eqIns p.code q.code
  case false =>
    have HS := Lib.hid (same_code hc)
    clear hc
    go_wp2_with fail
    go_ret
    exact ⟨ret_bool HS.out.symm, HB2.out⟩
  have HC := Lib.hid hc
  clear hc
  go_wp2_with fail
  refine (equalInts_any B B2 cB cB2 p.arrays q.arrays w2 HPR.out.arrs HQR.out.arrs (by omega) (by omega)).mono ?_
  rintro e w3 ⟨rfl, n3, hw3⟩
  have hg3 : Below w2.heap.size w2 w3 := by rw [hw3]; exact Gr.below ⟨n3, #[], by rw [grow_empty]⟩
  have HB3 := Lib.hid (HB2.out.trans (hg3.mono HB2.out.size))
  clear hw3 hg3 q2 r2
  cases hc : sameBy eqInt p.arrays q.arrays
  case false =>
    have HS := Lib.hid (same_arrs hc)
    clear hc
    go_wp2_with fail
    go_ret
    exact ⟨ret_bool HS.out.symm, HB3.out⟩
  have HS := Lib.hid (same_all HV.out HC.out hc)
  clear hc
  go_wp2_with fail
  go_ret
  exact ⟨ret_bool HS.out.symm, HB3.out⟩

set_option maxHeartbeats 1000000 in
set_option maxRecDepth 100000 in
theorem rmay_any (A B : Option Addr) (cA cB : Nat) (p : Cp) (w : World) (hI : CpIn w A cA B cB p) :
    Calls Tryd.prog 18 #[.agg #[.slice A p.code.length cA, .int .i64 p.vars, .slice B p.arrays.length cB]] w fun e w' => e = .returned (.bool p.mayB) ∧ Below w.heap.size w w' := by
  have hbn : Below w.heap.size w (w.alloc (.cells #[.slice A p.code.length cA, .int .i64 p.vars, .slice B p.arrays.length cB] 25)) := (Below.refl _ _).alloc (Nat.le_refl _) _
  have hH := rheights_any A B cA cB p _ (hI.below hbn)
  have HH := Lib.hid hH
  clear hH hI
  go_enter Tryd.func18, Tryd.ntmps18
  go_wp2_with fail
  generalize (w.alloc (.cells #[.slice A p.code.length cA, .int .i64 p.vars, .slice B p.arrays.length cB] 25)) = w1 at *
  refine HH.out.mono ?_
  rintro e w2 ⟨h, hb2⟩
  have HB := Lib.hid (hbn.trans (hb2.mono hbn.size))
  clear HH hb2 hbn
  rcases h with ⟨b, c, l, hw, ht, rfl, _⟩ | ⟨hbad, rfl⟩
  · have HM := Lib.hid (Cp.mayB_true ⟨hw, l, ht⟩)
    clear hw ht
    go_wp2_with fail
    go_ret
    exact ⟨ret_bool HM.out.symm, HB.out⟩
  · have HM := Lib.hid (Cp.mayB_false (Cp.may_not hbad))
    clear hbad
    go_wp2_with fail
    go_ret
    exact ⟨ret_bool HM.out.symm, HB.out⟩

set_option maxHeartbeats 4000000 in
set_option maxRecDepth 100000 in
theorem rsame_any (A B A2 B2 : Option Addr) (cA cB cA2 cB2 : Nat) (p q : Cp) (w : World) (hP : CpIn w A cA B cB p) (hQ : CpIn w A2 cA2 B2 cB2 q) :
    Calls Tryd.prog 20 #[.agg #[.slice A p.code.length cA, .int .i64 p.vars, .slice B p.arrays.length cB], .agg #[.slice A2 q.code.length cA2, .int .i64 q.vars, .slice B2 q.arrays.length cB2]] w fun e w' => e = .returned (.bool (p.same q)) ∧ Below w.heap.size w w' := by
  have hgu : Tryd.prog.eqGuardType Tryd.prog.depth 33 = false := by kernel_rfl
  have hb1 : Below w.heap.size w ((w.alloc (.cells #[.slice A p.code.length cA, .int .i64 p.vars, .slice B p.arrays.length cB] 25)).alloc (.cells #[.slice A2 q.code.length cA2, .int .i64 q.vars, .slice B2 q.arrays.length cB2] 25)) := ((Below.refl _ _).alloc (Nat.le_refl _) _).alloc (by simp) _
  have hP1 : PgAt ((w.alloc (.cells #[.slice A p.code.length cA, .int .i64 p.vars, .slice B p.arrays.length cB] 25)).alloc (.cells #[.slice A2 q.code.length cA2, .int .i64 q.vars, .slice B2 q.arrays.length cB2] 25)) w.heap.size A p.code.length cA p.vars B p.arrays.length cB := PgAt.new.below ((Below.refl _ _).alloc (Nat.le_refl _) _)
  have hQ1 : PgAt ((w.alloc (.cells #[.slice A p.code.length cA, .int .i64 p.vars, .slice B p.arrays.length cB] 25)).alloc (.cells #[.slice A2 q.code.length cA2, .int .i64 q.vars, .slice B2 q.arrays.length cB2] 25)) (w.alloc (.cells #[.slice A p.code.length cA, .int .i64 p.vars, .slice B p.arrays.length cB] 25)).heap.size A2 q.code.length cA2 q.vars B2 q.arrays.length cB2 := PgAt.new
  have HP := Lib.hid (hP.below hb1)
  have HQ := Lib.hid (hQ.below hb1)
  have hlc := hP.lc
  have hla := hP.la
  have hlc2 := hQ.lc
  have hla2 := hQ.la
  have HB := Lib.hid hb1
  clear hP hQ hb1
  go_enter Tryd.func20, Tryd.ntmps20
  go_upto_region 1 with fail
  generalize (w.alloc (.cells #[.slice A p.code.length cA, .int .i64 p.vars, .slice B p.arrays.length cB] 25)).alloc (.cells #[.slice A2 q.code.length cA2, .int .i64 q.vars, .slice B2 q.arrays.length cB2] 25) = w1 at *
  have hsz : (w.alloc (.cells #[.slice A p.code.length cA, .int .i64 p.vars, .slice B p.arrays.length cB] 25)).heap.size = w.heap.size + 1 := by simp
  rw [hsz] at hQ1
  have q0 := hP1.g0
  have q1 := hP1.g1
  have q2 := hP1.g2
  have r0 := hQ1.g0
  have r1 := hQ1.g1
  have r2 := hQ1.g2
  have HP1 := Lib.hid hP1
  have HQ1 := Lib.hid hQ1
  clear hP1 hQ1 hsz
  by_cases hv : p.vars = q.vars
  case neg =>
    have HS := Lib.hid (same_vars hv)
    have hv2 : (p.vars != q.vars) = true := by simpa using hv
    clear hv
    go_wp2_with fail
    go_ret
    exact ⟨ret_bool HS.out.symm, HB.out⟩
  have hv2 : (p.vars != q.vars) = false := by simpa using hv
  have HV := Lib.hid hv
  clear hv
  by_cases hl1 : p.code.length = q.code.length
  case neg =>
    have HS := Lib.hid (same_code (sameBy_len (eq := eqIns) hl1))
    have hv3 : ((p.code.length : Int) != (q.code.length : Int)) = true := by simp; omega
    clear hl1
    go_wp2_with fail
    go_ret
    exact ⟨ret_bool HS.out.symm, HB.out⟩
  have hv3 : ((p.code.length : Int) != (q.code.length : Int)) = false := by simp; omega
  by_cases hl2 : p.arrays.length = q.arrays.length
  case neg =>
    have HS := Lib.hid (same_arrs (sameBy_len (eq := eqInt) hl2))
    have hv4 : ((p.arrays.length : Int) != (q.arrays.length : Int)) = true := by simp; omega
    clear hl2 hl1
    go_wp2_with fail
    go_ret
    exact ⟨ret_bool HS.out.symm, HB.out⟩
  have hv4 : ((p.arrays.length : Int) != (q.arrays.length : Int)) = false := by simp; omega
  have HL1 := Lib.hid hl1
  have HL2 := Lib.hid hl2
  clear hl1 hl2
  go_wp2_with fail
  clear hv2 hv3 hv4 q0 q1 q2 r0 r1 r2
  go_loopg [5] (p.code.length + 1) (fun g i wx => ∃ k : Nat, i = .int .i64 k ∧ k ≤ p.code.length ∧ p.code.length - k < g ∧ Hid (sameBy eqIns (p.code.drop k) (q.code.drop k) = sameBy eqIns p.code q.code) ∧ ∃ n, Hid (wx = w1.drewN n))
  case atStart => exact ⟨0, rfl, by omega, by omega, rfl, 0, rfl⟩
  case round =>
    obtain ⟨k, rfl, hk, hg, hs, n, HW⟩ := hrel
    obtain ⟨g, rfl⟩ : ∃ g, gk = g + 1 := ⟨gk - 1, by omega⟩
    have hb : Below w1.heap.size w1 wr := by rw [HW.out]; exact Gr.below ⟨n, #[], by rw [grow_empty]⟩
    have q0 := (HP1.out.below hb).g0
    have r0 := (HQ1.out.below hb).g0
    have q2 := (HP1.out.below hb).g2
    have r2 := (HQ1.out.below hb).g2
    by_cases hlt : k < p.code.length
    · have hlt2 : k < q.code.length := by have := HL1.out; omega
      have hunf := hs.out
      rw [List.drop_eq_getElem_cons hlt, List.drop_eq_getElem_cons hlt2, sameBy, eqIns] at hunf
      obtain ⟨b1, o1, rfl, _, c0, c1⟩ := (HP.out.code.below hb) k hlt
      obtain ⟨b2, o2, rfl, _, d0, d1⟩ := (HQ.out.code.below hb) k hlt2
      have hne := neq_ins p.code[k].op p.code[k].n q.code[k].op q.code[k].n
      have HU := Lib.hid hunf
      clear hunf hs hb q2 r2
      generalize p.code[k].op = x1 at *
      generalize p.code[k].n = x2 at *
      generalize q.code[k].op = y1 at *
      generalize q.code[k].n = y2 at *
      generalize (x1 == y1 && x2 == y2) = eb at hne HU
      cases eb
      · simp only [Bool.not_false] at hne
        have HS := Lib.hid (same_code (p := p) (q := q) (by rw [← HU.out]; rfl))
        go_upto_region 6 with fail
        go_quiet (fail)
        clear hne c0 c1 d0 d1 q0 r0
        go_wp2_with fail
        go_ret
        refine ⟨ret_bool HS.out.symm, ?_⟩
        rw [HW.out]
        exact HB.out.trans ((Gr.below ⟨n + nq, #[], by rw [grow_empty, World.drewN_drewN]⟩ : Below w1.heap.size w1 _).mono HB.out.size)
      · simp only [Bool.not_true] at hne
        go_upto_region 6 with fail
        go_quiet (fail)
        clear hne c0 c1 d0 d1 q0 r0
        go_wp2_with fail
        go_roundg g
        case measure => omega
        case rel => exact ⟨k + 1, by go_num, by omega, by omega, Lib.hid (by rw [← HU.out]; rfl), n + nq, Lib.hid (by rw [HW.out, World.drewN_drewN])⟩
    · have hke : k = p.code.length := by omega
      have hr : sameBy eqIns p.code q.code = true := by
        rw [← hs.out, hke, List.drop_length, HL1.out, List.drop_length]
        rfl
      have HR := Lib.hid hr
      clear hr hs hb
      go_wp2_with fail
      clear q0 r0 q2 r2
      go_loopg [6] (p.arrays.length + 1) (fun g i wx => ∃ k : Nat, i = .int .i64 k ∧ k ≤ p.arrays.length ∧ p.arrays.length - k < g ∧ Hid (sameBy eqInt (p.arrays.drop k) (q.arrays.drop k) = sameBy eqInt p.arrays q.arrays) ∧ ∃ n, Hid (wx = w1.drewN n))
      case atStart => exact ⟨0, rfl, by omega, by omega, rfl, n, HW⟩
      case round =>
        clear HW
        obtain ⟨k, rfl, hk, hg, hs, n, HW⟩ := hrel
        obtain ⟨g3, rfl⟩ : ∃ g3, gk = g3 + 1 := ⟨gk - 1, by omega⟩
        have hb : Below w1.heap.size w1 wr := by rw [HW.out]; exact Gr.below ⟨n, #[], by rw [grow_empty]⟩
        have q2 := (HP1.out.below hb).g2
        have r2 := (HQ1.out.below hb).g2
        by_cases hlt : k < p.arrays.length
        · have hlt2 : k < q.arrays.length := by have := HL2.out; omega
          have hunf := hs.out
          rw [List.drop_eq_getElem_cons hlt, List.drop_eq_getElem_cons hlt2, sameBy, eqInt] at hunf
          obtain ⟨b1, o1, rfl, _, c0⟩ := (HP.out.arrs.below hb) k hlt
          obtain ⟨b2, o2, rfl, _, d0⟩ := (HQ.out.arrs.below hb) k hlt2
          obtain ⟨eb, hne⟩ : ∃ e, (p.arrays[k] == q.arrays[k]) = e := ⟨_, rfl⟩
          rw [hne] at hunf
          have HU := Lib.hid hunf
          clear hunf hs hb
          generalize p.arrays[k] = x1 at *
          generalize q.arrays[k] = y1 at *
          cases eb
          · have hne2 : (x1 != y1) = true := by rw [bne, hne]; rfl
            have HS := Lib.hid (same_arrs (p := p) (q := q) (by rw [← HU.out]; rfl))
            go_upto_region 11 with fail
            go_quiet (fail)
            clear hne hne2 c0 d0 q2 r2
            go_wp2_with fail
            go_ret
            refine ⟨ret_bool HS.out.symm, ?_⟩
            rw [HW.out]
            exact HB.out.trans ((Gr.below ⟨n + nq, #[], by rw [grow_empty, World.drewN_drewN]⟩ : Below w1.heap.size w1 _).mono HB.out.size)
          · have hne2 : (x1 != y1) = false := by rw [bne, hne]; rfl
            go_upto_region 11 with fail
            go_quiet (fail)
            clear hne hne2 c0 d0 q2 r2
            go_wp2_with fail
            go_roundg g3
            case measure => omega
            case rel => exact ⟨k + 1, by go_num, by omega, by omega, Lib.hid (by rw [← HU.out]; rfl), n + nq, Lib.hid (by rw [HW.out, World.drewN_drewN])⟩
        · have hke : k = p.arrays.length := by omega
          have hr : sameBy eqInt p.arrays q.arrays = true := by
            rw [← hs.out, hke, List.drop_length, HL2.out, List.drop_length]
            rfl
          have HS := Lib.hid (same_all HV.out HR.out hr)
          have HE := Lib.hid (HB.out.trans (hb.mono HB.out.size))
          clear hr hs hb
          go_wp2_with fail
          go_ret
          exact ⟨ret_bool HS.out.symm, HE.out⟩
end Go.Proofs.YtaanhkepimjelaaDoor
