/- The law CodeUnseen: its walk, and what its row asks. -/
import Derived.Test.YtaanhkepimjelaaDoorCodeX
import Derived.Test.YtaanhkepimjelaaDoorCodeU
import Derived.Test.YtaanhkepimjelaaDoorCodeO
import Derived.Test.YtaanhkepimjelaaDoorCodeTabs
import Derived.Test.YtaanhkepimjelaaDoorRow
namespace Go.Proofs.YtaanhkepimjelaaDoor
open Go.ChangeShapes Go.WideShapes Go.ChangeAt Go.RowKit Go.Sort
set_option linter.unusedVariables false
set_option linter.unusedSimpArgs false

set_option maxHeartbeats 8000000 in
set_option maxRecDepth 100000 in
theorem codeUnseen_walk (A B : Option Addr) (cA cB : Nat) (p : Cp) (at_ : Int) (w : World) (hI : CpIn w A cA B cB p) (hat : -9223372036854775808 ≤ at_ ∧ at_ ≤ 9223372036854775807) (hT : CodeTabs w) :
    Calls Tryd.prog 4 #[.agg #[.slice A p.code.length cA, .int .i64 p.vars, .slice B p.arrays.length cB], .int .i64 at_] w fun e w' => e = .returned (.bool true) ∧ Below w.heap.size w w' := by
  have hlc := hI.lc
  have hla := hI.la
  have hvo := hI.vok
  have hb1 : Below w.heap.size w (w.alloc (.cells #[.slice A p.code.length cA, .int .i64 p.vars, .slice B p.arrays.length cB] 25)) := (Below.refl _ _).alloc (Nat.le_refl _) _
  have hP1 : PgAt (w.alloc (.cells #[.slice A p.code.length cA, .int .i64 p.vars, .slice B p.arrays.length cB] 25)) w.heap.size A p.code.length cA p.vars B p.arrays.length cB := PgAt.new
  have HI := Lib.hid hI
  have HT := Lib.hid hT
  clear hI hT
  go_enter Tryd.func4, Tryd.ntmps4
  go_wp2_with fail
  generalize w.alloc (.cells #[.slice A p.code.length cA, .int .i64 p.vars, .slice B p.arrays.length cB] 25) = w1 at *
  refine (awake_any w1 (HT.out.below hb1)).mono ?_
  rintro e w2 ⟨rfl, hb2⟩
  have hP2 := hP1.below hb2
  have HBW2 := Lib.hid (hb1.trans (hb2.mono hb1.size))
  have q0 := hP2.g0
  have q1 := hP2.g1
  have q2 := hP2.g2
  have HP2 := Lib.hid hP2
  clear hP1 hb1 hb2 hP2
  go_wp2_with fail
  refine (great_any A B cA cB p.code.length p.arrays.length p.vars w2).mono ?_
  rintro e w3 ⟨rfl, hg3⟩
  have hb3 := hg3.below
  have hP3 := HP2.out.below hb3
  have HBW3 := Lib.hid (HBW2.out.trans (hb3.mono HBW2.out.size))
  clear q0 q1 q2
  have q0 := hP3.g0
  have q1 := hP3.g1
  have q2 := hP3.g2
  have HP3 := Lib.hid hP3
  clear hg3 hb3 HP2 HBW2 HT hP3
  cases hgr : (decide (400 < p.code.length) || decide (100 < p.arrays.length))
  case true =>
    clear hgr
    go_wp2_with fail
    go_ret
    exact ⟨rfl, HBW3.out⟩
  case false =>
    have hn4 : p.code.length ≤ 400 ∧ p.arrays.length ≤ 100 := by
      simp only [Bool.or_eq_false_iff, decide_eq_false_iff_not] at hgr
      omega
    clear hgr
    go_wp2_with fail
    refine (heights_any A B cA cB p w3 (HI.out.below HBW3.out)).mono ?_
    rintro e w4 ⟨h, hb4⟩
    have hP4 := HP3.out.below hb4
    clear q0 q1 q2
    have q0 := hP4.g0
    have q1 := hP4.g1
    have q2 := hP4.g2
    have HBW4 := Lib.hid (HBW3.out.trans (hb4.mono HBW3.out.size))
    have HP4 := Lib.hid hP4
    clear hP4 hb4 HP3 HBW3
    rcases h with ⟨b, l, hwh, ht, rfl, _, hbl⟩ | ⟨hbad, rfl⟩
    case inr =>
      clear hbad
      go_wp2_with fail
      go_ret
      exact ⟨rfl, HBW4.out⟩
    have hll := ht.len
    have hpos := (Cp.whole_parts hwh).2.1
    have HWH := Lib.hid hwh
    have HTD := Lib.hid ht
    have HBL := Lib.hid hbl
    have HLL := Lib.hid hll
    have hl4 : l.length ≤ 400 := by omega
    clear hwh ht hbl
    by_cases t1 : at_ < 0
    · go_wp2_with fail
      go_ret
      exact ⟨rfl, HBW4.out⟩
    obtain ⟨a, rfl⟩ : ∃ a : Nat, at_ = a := ⟨at_.toNat, by omega⟩
    by_cases t2 : (p.code.length : Int) - 1 ≤ a
    · have hlt : (l.length : Int) - 1 ≤ a := by omega
      clear hll
      go_wp2_with fail
      go_ret
      exact ⟨rfl, HBW4.out⟩
    have hal : a < l.length := by omega
    have hca := HBL.out.get a hal
    by_cases t3 : l[a] = -1
    case neg =>
      generalize l[a] = y at *
      have f1 : (y != -1) = true := by simpa using t3
      have hlt : ¬ (l.length : Int) - 1 ≤ a := by omega
      clear t3 hll t2
      go_wp2_with fail
      go_ret
      exact ⟨rfl, HBW4.out⟩
    rw [t3] at hca
    have HAT := Lib.hid (show ∀ h : a < l.length, l[a] = -1 from fun _ => t3)
    have hlt : ¬ (l.length : Int) - 1 ≤ a := by omega
    clear t3 hll
    go_wp2_with fail
    clear hlt
    refine (copy_any A B cA cB p w4 (HI.out.below HBW4.out) (by omega) (by omega)).mono ?_
    rintro e w5 ⟨⟨A2, B2, cA2, cB2, rfl, ho1, ho2⟩, hb5⟩
    have hlen2 := HLL.out
    obtain ⟨A3, c3, e3, hcc, hcd, hs1, hs0⟩ := own_shape ho1
    cases e3
    cases A2 with
    | none => have := (hs0 rfl).1; omega
    | some x =>
      obtain ⟨g, rfl, hg0, hg1⟩ := hs1 x rfl
      have hb6 : Below w5.heap.size w5 (w5.alloc (.cells #[.slice (some ⟨g, 0, none⟩) p.code.length cA2, .int .i64 p.vars, .slice B2 p.arrays.length cB2] 25)) := (Below.refl _ _).alloc (Nat.le_refl _) _
      have hP6 : PgAt (w5.alloc (.cells #[.slice (some ⟨g, 0, none⟩) p.code.length cA2, .int .i64 p.vars, .slice B2 p.arrays.length cB2] 25)) w5.heap.size (some ⟨g, 0, none⟩) p.code.length cA2 p.vars B2 p.arrays.length cB2 := PgAt.new
      have ho1 := own_below5 ho1 hb6
      have ho2 := own_below5 ho2 hb6
      have HBL6 := Lib.hid ((HBL.out.below hb5).below hb6)
      have HBL5 := Lib.hid HBL.out
      have HBW6 := Lib.hid ((hb5.trans (hb6.mono hb5.size)))
      have hQl : w5.heap.size < (w5.alloc (.cells #[.slice (some ⟨g, 0, none⟩) p.code.length cA2, .int .i64 p.vars, .slice B2 p.arrays.length cB2] 25)).heap.size := by simp
      have HBW5 := Lib.hid hb5
      clear hb5 hb6 HBL hs0 hs1
      go_upto_region 9 with fail
      clear q0 q1 q2 hca
      have hgQ : g ≠ w5.heap.size := by omega
      generalize w5.alloc (.cells #[.slice (some ⟨g, 0, none⟩) p.code.length cA2, .int .i64 p.vars, .slice B2 p.arrays.length cB2] 25) = w6 at *
      generalize hQ : w5.heap.size = Q at *
      have hac : a < p.code.length := by omega
      have q0 := hP6.g0
      have f0 := ho1.frozenAt (a * 2)
      have f1 := ho1.frozenAt (a * 2 + 1)
      have hgl : g < w6.heap.size := by omega
      have hl0 : a * 2 < (insCells p.code).length := by rw [insCells_length]; omega
      have hl1 : a * 2 + 1 < (insCells p.code).length := by rw [insCells_length]; omega
      have d0 := ho1.cellAt (a * 2) (by omega)
      have d1 := ho1.cellAt (a * 2 + 1) (by omega)
      rw [List.getElem?_eq_getElem hl0] at d0
      rw [List.getElem?_eq_getElem hl1] at d1
      generalize (insCells p.code)[a * 2] = y0 at *
      generalize (insCells p.code)[a * 2 + 1] = y1 at *
      have hst := ((ho1.stored (a * 2) (.int .u8 13)).1.stored (a * 2 + 1) (.int .i64 0)).1
      rw [← insCells_set p.code a ⟨13, 0⟩ hac] at hst
      have HST := Lib.hid hst
      clear hst hl0 hl1
      have hoa := own_apart ho1 ho2 (by decide)
      have HO2 := Lib.hid (ownsRow_setCell_other (ownsRow_setCell_other ho2 (a := ⟨g, a * 2, none⟩) hoa (.int .u8 13)) (a := ⟨g, a * 2 + 1, none⟩) hoa (.int .i64 0))
      have hbg : g ≠ b := by
        have := HBL5.out.lt
        omega
      have HBL7 := Lib.hid ((HBL6.out.other hbg (a * 2) (.int .u8 13)).other hbg (a * 2 + 1) (.int .i64 0))
      have HP7 := Lib.hid ((hP6.set hgQ (a * 2) (.int .u8 13)).set hgQ (a * 2 + 1) (.int .i64 0))
      have HBW7 := Lib.hid ((HBW6.out.setCell (p := ⟨g, a * 2, none⟩) hg0 (.int .u8 13)).setCell (p := ⟨g, a * 2 + 1, none⟩) hg0 (.int .i64 0))
      go_upto_region 10 with fail
      clear q0 f0 f1 d0 d1 hP6 ho1 ho2 HBL6 HBW6 hgl hQl
      generalize (w6.setCell ⟨g, a * 2, none⟩ (.int .u8 13)).setCell ⟨g, a * 2 + 1, none⟩ (.int .i64 0) = w7 at *
      have hok := (HI.out.ok)
      have haok := (HI.out.aok)
      have hq : CpIn w7 (some ⟨g, 0, none⟩) cA2 B2 cB2 ⟨p.code.set a ⟨13, 0⟩, p.vars, p.arrays⟩ := cpIn_own (by
        simp only [List.length_set]
        exact HST.out) HO2.out (fun i hi => by
        rcases List.mem_or_eq_of_mem_set hi with h | h
        · exact hok i h
        · subst h; exact ⟨by decide, by decide⟩) haok hvo
      have hH := heights_any (some ⟨g, 0, none⟩) B2 cA2 cB2 ⟨p.code.set a ⟨13, 0⟩, p.vars, p.arrays⟩ w7 hq
      simp only [List.length_set] at hH
      have HH := Lib.hid hH
      have HW2 := Lib.hid (whole_set HWH.out (a := a) (by omega))
      have HT2 := Lib.hid (told_set HTD.out hpos HAT.out ⟨13, 0⟩)
      clear hq hH hok haok
      have q0 := HP7.out.g0
      have q1 := HP7.out.g1
      have q2 := HP7.out.g2
      go_wp2_with fail
      refine HH.out.mono ?_
      rintro e w8 ⟨h, hb8⟩
      rcases h with ⟨b2, l2, _, ht2, rfl, _, hbl2⟩ | ⟨hbad, _⟩
      case inr => exact absurd ⟨HW2.out, l, HT2.out⟩ (Cp.may_not hbad)
      obtain rfl := (ht2.one HT2.out).symm
      have HBL8 := Lib.hid (HBL7.out.below hb8)
      have HBL9 := Lib.hid hbl2
      have HBW8 := Lib.hid (HBW4.out.trans ((HBW7.out.trans (hb8.mono HBW7.out.size)).mono HBW4.out.size))
      clear hb8 hbl2 ht2 q0 q1 q2 HH
      go_wp2_with fail
      go_loopg [10] (l.length + 1) (fun g i wx => ∃ k : Nat, i = .int .i64 k ∧ k ≤ l.length ∧ l.length - k < g ∧ ∃ n, Hid (wx = w8.drewN n))
      case atStart => exact ⟨0, rfl, by omega, by omega, 0, rfl⟩
      case round =>
        obtain ⟨k, rfl, hk, hg, n, HW⟩ := hrel
        obtain ⟨g2, rfl⟩ : ∃ g2, gk = g2 + 1 := ⟨gk - 1, by omega⟩
        have hgr : Below w8.heap.size w8 wr := by rw [HW.out]; exact Gr.below ⟨n, #[], by rw [grow_empty]⟩
        by_cases hlt : k < l.length
        · have c0 := (HBL8.out.below hgr).get k hlt
          have c1 := (HBL9.out.below hgr).get k hlt
          generalize l[k] = y at *
          go_upto_region 16 with fail
          go_quiet (fail)
          clear c0 c1
          go_wp2_with fail
          go_roundg g2
          case measure => omega
          case rel => exact ⟨k + 1, by go_num, by omega, by omega, n + nq, Lib.hid (by rw [HW.out, World.drewN_drewN])⟩
        · have HGR := Lib.hid (HBW8.out.trans (hgr.mono HBW8.out.size))
          clear hgr
          go_wp2_with fail
          go_ret
          exact ⟨rfl, HGR.out⟩

set_option maxRecDepth 100000 in
theorem codeUnseen_calls {H : Type} (enc : TypeId × Value → H) (W : World) (base : Nat) (args : Array Value) (ds : List (DataW H)) (p : List MemPlace)
    (hval : ∀ (j : Nat) t v, Tryd.f4.params[j]? = some t → args[j]? = some v → Value.okWide Tryd.prog W .any base t v)
    (hA : DataW.TrodAll enc Tryd.prog W 0 (fun _ => true) true Tryd.f4.params.toList args.toList ds p)
    (hsz : (DataW.weightsEach Tryd.prog (Tryd.f4.params.toList ++ Rows.codeUnseenSpec.plain.varTypes Tryd.prog) (ds ++ [])).all (· ≤ reachBytes) = true)
    (hL : laidMetH Tryd.prog Rows.codeUnseenRow.laid W) :
    Calls Tryd.prog 4 args W fun e W' => e = .returned (.bool true) ∧ Below W.heap.size W W' ∧ (Rows.codeUnseenSpec.fn H (ds ++ [])) = { results := [.lit (.bool true)], args := ds } := by
  have hT : CodeTabs W := codeTabs_of (by kernel_rfl) hL (by repeat (first | exact List.mem_cons_self | apply List.mem_cons_of_mem)) (by repeat (first | exact List.mem_cons_self | apply List.mem_cons_of_mem))
  rw [Tryd.params4] at hA hval
  obtain ⟨v0, v1, d0, d1, p0, p1, rfl, rfl, rfl, h0, h1⟩ := trodAll_two hA
  obtain ⟨A, B, cA, cB, q, rfl, hI⟩ := open_prog5 (hval 0 25 v0 rfl rfl) h0
  obtain ⟨x, rfl, rfl, rfl, wx⟩ := open_int Tryd.underlying3 (hval 1 3 v1 rfl rfl) h1
  exact (codeUnseen_walk A B cA cB q x W hI (bounds_i64 wx) hT).mono fun e W' h => ⟨h.1, h.2, rfl⟩
end Go.Proofs.YtaanhkepimjelaaDoor
