/- The law CodeWay: its walk, and what its row asks. -/
import Derived.Test.YtaanhkepimjelaaDoorCodeX
import Derived.Test.YtaanhkepimjelaaDoorCodeO
import Derived.Test.YtaanhkepimjelaaDoorCodeTabs
import Derived.Test.YtaanhkepimjelaaDoorRow
namespace Go.Proofs.YtaanhkepimjelaaDoor
open Go.ChangeShapes Go.WideShapes Go.ChangeAt Go.RowKit Go.Sort
set_option linter.unusedVariables false
set_option linter.unusedSimpArgs false

set_option maxHeartbeats 8000000 in
set_option maxRecDepth 100000 in
theorem codeWay_walk (A B T : Option Addr) (cA cB cT : Nat) (p : Cp) (tl : List Bool) (w : World) (hI : CpIn w A cA B cB p) (hB : BoolRow w T tl) (htl : tl.length ≤ 9223372036854775807) (hT : CodeTabs w) :
    Calls Tryd.prog 3 #[.agg #[.slice A p.code.length cA, .int .i64 p.vars, .slice B p.arrays.length cB], .slice T tl.length cT] w fun e w' => e = .returned (.bool true) ∧ Below w.heap.size w w' := by
  have hlc := hI.lc
  have hla := hI.la
  have hvo := hI.vok
  have hb1 : Below w.heap.size w (w.alloc (.cells #[.slice A p.code.length cA, .int .i64 p.vars, .slice B p.arrays.length cB] 25)) := (Below.refl _ _).alloc (Nat.le_refl _) _
  have hP1 : PgAt (w.alloc (.cells #[.slice A p.code.length cA, .int .i64 p.vars, .slice B p.arrays.length cB] 25)) w.heap.size A p.code.length cA p.vars B p.arrays.length cB := PgAt.new
  have HI := Lib.hid hI
  have HB := Lib.hid hB
  have HT := Lib.hid hT
  clear hI hB hT
  go_enter Tryd.func3, Tryd.ntmps3
  go_wp2_with fail
  generalize w.alloc (.cells #[.slice A p.code.length cA, .int .i64 p.vars, .slice B p.arrays.length cB] 25) = w1 at *
  refine (awake_any w1 (HT.out.below hb1)).mono ?_
  rintro e w2 ⟨rfl, hb2⟩
  have hP2 := hP1.below hb2
  have HBW2 := Lib.hid (hb1.trans (hb2.mono hb1.size))
  have q0 := hP2.g0
  have q1 := hP2.g1
  have q2 := hP2.g2
  have HP2 := Lib.hid hP2
  clear hP1 hb1 hb2 hP2
  go_wp2_with fail
  refine (great_any A B cA cB p.code.length p.arrays.length p.vars w2).mono ?_
  rintro e w3 ⟨rfl, hg3⟩
  have hb3 := hg3.below
  have hP3 := HP2.out.below hb3
  have HBW3 := Lib.hid (HBW2.out.trans (hb3.mono HBW2.out.size))
  have q0 := hP3.g0
  have q1 := hP3.g1
  have q2 := hP3.g2
  have HP3 := Lib.hid hP3
  clear hg3 hb3 HP2 HBW2 HT hP3
  cases hgr : (decide (400 < p.code.length) || decide (100 < p.arrays.length))
  case true =>
    clear hgr
    go_wp2_with fail
    go_ret
    exact ⟨rfl, HBW3.out⟩
  case false =>
    have hn4 : p.code.length ≤ 400 := by
      simp only [Bool.or_eq_false_iff, decide_eq_false_iff_not] at hgr
      omega
    clear hgr
    go_wp2_with fail
    refine (heights_any A B cA cB p w3 (HI.out.below HBW3.out)).mono ?_
    rintro e w4 ⟨h, hb4⟩
    have hP4 := HP3.out.below hb4
    have q0 := hP4.g0
    have q1 := hP4.g1
    have q2 := hP4.g2
    have HBW4 := Lib.hid (HBW3.out.trans (hb4.mono HBW3.out.size))
    have HP4 := Lib.hid hP4
    clear hP4 hb4 HP3 HBW3
    rcases h with ⟨b, l, hwh, ht, rfl, _, hbl⟩ | ⟨hbad, rfl⟩
    case inr =>
      clear hbad
      go_wp2_with fail
      go_ret
      exact ⟨rfl, HBW4.out⟩
    have hll := ht.len
    have hpos := (Cp.whole_parts hwh).2.1
    have HWH := Lib.hid hwh
    have HTD := Lib.hid ht
    have HBL := Lib.hid hbl
    have HZ := Lib.hid ht.zero
    have HLL := Lib.hid hll
    clear hwh ht hbl
    go_wp2_with fail
    clear hll q0 q1 q2
    go_loopg [7, 8, 9, 10] 501 (fun g ta th tk ts wx => ∃ (a : Nat) (h : Int) (k s : Nat), ta = .int .i64 a ∧ th = .int .i64 h ∧ tk = .int .i64 k ∧ ts = .int .i64 s ∧ a < p.code.length ∧ 0 ≤ h ∧ h ≤ 200 ∧ k ≤ s ∧ s ≤ 500 ∧ 500 - s < g ∧ Hid (∀ ha : a < l.length, l[a] = h) ∧ Hid (Below w4.heap.size w4 wx))
    case atStart => exact ⟨0, 0, 0, 0, rfl, rfl, rfl, rfl, hpos, by omega, by omega, by omega, by omega, by omega, Lib.hid HZ.out, Below.refl _ _⟩
    case round =>
      obtain ⟨a, h, k, s, rfl, rfl, rfl, rfl, hap, hh0, hh1, hks, hs, hg, HA, HBW⟩ := hrel
      obtain ⟨g, rfl⟩ : ∃ g, gk = g + 1 := ⟨gk - 1, by omega⟩
      by_cases hlt : s < 500
      · have hal : a < l.length := by rw [HLL.out]; exact hap
        have hla2 := HA.out hal
        have hcl := HTD.out.closed a hal (by omega) hal hap
        rw [hla2] at hcl
        obtain ⟨ht1, ht2, ht3⟩ := hcl
        have hcb := (HBL.out.below HBW.out).get a hal
        rw [hla2] at hcb
        have hbw := HBW4.out.trans (HBW.out.mono HBW4.out.size)
        have hP := HP4.out.below HBW.out
        have hPl : w.heap.size < wr.heap.size := World.block_lt_of_cell? wr _ hP.g0
        obtain ⟨b1, o1, rfl, hb1, d0, d1⟩ := (HI.out.below hbw).code a hap
        have q0 := hP.g0
        have hiok := HI.out.ok _ (List.getElem_mem hap)
        have htk0 := fits_tk ((Cp.whole_parts HWH.out).2.2.2.2.2.1 _ (List.getElem_mem hap))
        have hgv := gv_pos p.code[a]
        have HRT := Lib.hid (fun w' => rtakes_any p.code[a] w' hiok)
        rw [tkR_fits htk0] at HRT
        have HWIN := Lib.hid (fun x hx => ways_in (p := p) HWH.out hap (x := x) hx)
        have HT3 := Lib.hid ht3
        clear hla2 ht3 hP hiok
        generalize hxi : p.code[a] = xi at *
        generalize hop : xi.op = op at *
        generalize hnn : xi.n = nn at *
        generalize htk : tkOf xi = tk at *
        generalize hgvv : gvOf xi = gv at *
        have HNX := Lib.hid (show ∀ x : Nat, (x : Int) ∈ waysOf a xi → x < p.code.length ∧ ∀ ha : x < l.length, l[x] = h - tk + gv from fun x hx => ⟨by have := (HWIN.out _ hx).2; omega, fun ha => by obtain ⟨_, e⟩ := HT3.out x hx; exact e⟩)
        have HW0 := Lib.hid (fun x hx => (HWIN.out x hx).1)
        have hxe : xi = ⟨op, nn⟩ := by cases xi; simp only at hop hnn; rw [hop, hnn]
        rw [hxe] at HNX HW0
        clear hxi hop hnn htk hgvv HWIN HT3 hbw hb1
        have hb5 : Below wr.heap.size wr (wr.alloc (.cells #[.int .u8 op, .int .i64 nn] 33)) := (Below.refl _ _).alloc (Nat.le_refl _) _
        have e0 := lit_cell (w := wr) (cs := #[.int .u8 op, .int .i64 nn]) (t := 33) 0 _ rfl
        have e1 := lit_cell (w := wr) (cs := #[.int .u8 op, .int .i64 nn]) (t := 33) 1 _ rfl
        clear hxe
        have HBW5 := Lib.hid (HBW.out.trans (hb5.mono HBW.out.size))
        have HBR := Lib.hid (HB.out.below (HBW4.out.trans (HBW5.out.mono HBW4.out.size)))
        go_wp2_with fail
        generalize wr.alloc (.cells #[.int .u8 op, .int .i64 nn] 33) = w5 at *
        generalize wr.heap.size = b5 at *
        refine (HRT.out _).mono ?_
        rintro e w6 ⟨rfl, hg6⟩
        have e0 := cell_later hg6.below e0
        have e1 := cell_later hg6.below e1
        have HBW6 := Lib.hid (HBW5.out.trans (hg6.below.mono HBW5.out.size))
        have HBR6 := Lib.hid (HBR.out.below hg6.below)
        clear hg6 HBW5 HBR hb5 HBW hcb d0 d1 q0 HRT
        have hs9 : s ≤ 499 := by omega
        have hk9 : k ≤ 499 := by omega
        by_cases o29 : op = 29
        · subst o29
          go_wp2_with fail
          go_ret
          exact ⟨rfl, HBW4.out.trans (HBW6.out.mono HBW4.out.size)⟩
        by_cases o22 : op = 22
        · subst o22
          have hm : nn ∈ waysOf a ⟨22, nn⟩ := by simp [waysOf]
          obtain ⟨wn, rfl⟩ : ∃ wn : Nat, nn = wn := ⟨nn.toNat, by have := HW0.out _ hm; omega⟩
          obtain ⟨hx1, hx2⟩ := HNX.out wn hm
          have HX2 := Lib.hid hx2
          clear hx2 hm HNX HW0 o29
          go_wp2_with fail
          go_roundg g
          case measure => omega
          case rel => exact ⟨wn, h - tk + gv, k, s + 1, rfl, rfl, rfl, by go_num, hx1, by omega, ht2, by omega, by omega, by omega, HX2, HBW6.out⟩
        by_cases o23 : op = 23 ∨ op = 24
        · have hm : nn ∈ waysOf a ⟨op, nn⟩ := by simp [waysOf, o29, o22, o23]
          have hm1 : (((a + 1 : Nat) : Int)) ∈ waysOf a ⟨op, nn⟩ := by simp [waysOf, o29, o22, o23]
          obtain ⟨wn, rfl⟩ : ∃ wn : Nat, nn = wn := ⟨nn.toNat, by have := HW0.out _ hm; omega⟩
          obtain ⟨hx1, hx2⟩ := HNX.out wn hm
          obtain ⟨hy1, hy2⟩ := HNX.out (a + 1) hm1
          have HX2 := Lib.hid hx2
          have HY2 := Lib.hid hy2
          clear hx2 hy2 hm hm1 HNX HW0 o29 o22
          by_cases hk : k < tl.length
          · obtain ⟨bt, ot, rfl, hbt, hct⟩ := HBR6.out k hk
            generalize tl[k] = tb at *
            cases tb
            all_goals
              rcases o23 with rfl | rfl
              all_goals
                go_wp2_with fail
                go_roundg g
                case measure => omega
                case rel =>
                  first
                    | exact ⟨wn, h - tk + gv, k + 1, s + 1, rfl, rfl, by go_num, by go_num, hx1, by omega, ht2, by omega, by omega, by omega, HX2, HBW6.out⟩
                    | exact ⟨a + 1, h - tk + gv, k + 1, s + 1, by go_num, rfl, by go_num, by go_num, hy1, by omega, ht2, by omega, by omega, by omega, HY2, HBW6.out⟩
          · rcases o23 with rfl | rfl
            all_goals
              go_wp2_with fail
              go_roundg g
              case measure => omega
              case rel => exact ⟨a + 1, h - tk + gv, k + 1, s + 1, by go_num, rfl, by go_num, by go_num, hy1, by omega, ht2, by omega, by omega, by omega, HY2, HBW6.out⟩
        · have hm1 : (((a + 1 : Nat) : Int)) ∈ waysOf a ⟨op, nn⟩ := by simp [waysOf, o29, o22, o23]
          obtain ⟨hy1, hy2⟩ := HNX.out (a + 1) hm1
          have HY2 := Lib.hid hy2
          have f1 : (op == 29) = false := by simpa using o29
          have f2 : (op == 22) = false := by simpa using o22
          have f3 : (op == 23) = false := by simp; omega
          have f4 : (op == 24) = false := by simp; omega
          clear hy2 hm1 HNX HW0 o29 o22 o23
          go_wp2_with fail
          go_roundg g
          case measure => omega
          case rel => exact ⟨a + 1, h - tk + gv, k, s + 1, by go_num, rfl, rfl, by go_num, hy1, by omega, ht2, by omega, by omega, by omega, HY2, HBW6.out⟩
      · go_wp2_with fail
        go_ret
        exact ⟨rfl, HBW4.out.trans (HBW.out.mono HBW4.out.size)⟩

set_option maxRecDepth 100000 in
theorem codeWay_calls {H : Type} (enc : TypeId × Value → H) (W : World) (base : Nat) (args : Array Value) (ds : List (DataW H)) (p : List MemPlace)
    (hval : ∀ (j : Nat) t v, Tryd.f3.params[j]? = some t → args[j]? = some v → Value.okWide Tryd.prog W .any base t v)
    (hA : DataW.TrodAll enc Tryd.prog W 0 (fun _ => true) true Tryd.f3.params.toList args.toList ds p)
    (hsz : (DataW.weightsEach Tryd.prog (Tryd.f3.params.toList ++ Rows.codeWaySpec.plain.varTypes Tryd.prog) (ds ++ [])).all (· ≤ reachBytes) = true)
    (hL : laidMetH Tryd.prog Rows.codeWayRow.laid W) :
    Calls Tryd.prog 3 args W fun e W' => e = .returned (.bool true) ∧ Below W.heap.size W W' ∧ (Rows.codeWaySpec.fn H (ds ++ [])) = { results := [.lit (.bool true)], args := ds } := by
  have hT : CodeTabs W := codeTabs_of (by kernel_rfl) hL (by repeat (first | exact List.mem_cons_self | apply List.mem_cons_of_mem)) (by repeat (first | exact List.mem_cons_self | apply List.mem_cons_of_mem))
  rw [Tryd.params3] at hA hval
  obtain ⟨v0, v1, d0, d1, p0, p1, rfl, rfl, rfl, h0, h1⟩ := trodAll_two hA
  obtain ⟨A, B, cA, cB, q, rfl, hI⟩ := open_prog5 (hval 0 25 v0 rfl rfl) h0
  obtain ⟨a1, len, cap, rfl⟩ := okWide_slice Tryd.underlying26 (hval 1 26 v1 rfl rfl)
  obtain ⟨fuel, hf⟩ := h1
  obtain ⟨T, cT, tl, hv, hB, htl1, htl2⟩ := open_bools5 (by simpa [Value.cells] using hf)
  rw [hv]
  exact (codeWay_walk A B T cA cB cT q tl W hI hB (by omega) hT).mono fun e W' h => ⟨h.1, h.2, rfl⟩
end Go.Proofs.YtaanhkepimjelaaDoor
