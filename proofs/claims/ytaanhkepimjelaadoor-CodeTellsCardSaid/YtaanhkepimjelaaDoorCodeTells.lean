/- The law CodeTells: its walk, and what its row asks. -/
import Derived.Test.YtaanhkepimjelaaDoorCodeG
import Derived.Test.YtaanhkepimjelaaDoorCodeM
import Derived.Test.YtaanhkepimjelaaDoorCodeO
import Derived.Test.YtaanhkepimjelaaDoorCodeTabs
import Derived.Test.YtaanhkepimjelaaDoorRow
import Derived.Lib.QuietBelow
namespace Go.Proofs.YtaanhkepimjelaaDoor
open Go.ChangeShapes Go.WideShapes Go.ChangeAt Go.RowKit Go.Sort
set_option linter.unusedVariables false
set_option linter.unusedSimpArgs false

/-- The heights and the error that a program has. -/
def HOf (p : Cp) (L : List Int) (f : Int) : Prop := (p.May ∧ Told p.code L ∧ f = 0) ∨ (¬ p.May ∧ L = [] ∧ f = 50)
theorem HOf.one {p : Cp} {L M : List Int} {f g : Int} (h : HOf p L f) (k : HOf p M g) : L = M ∧ f = g := by
  rcases h with ⟨h1, h2, h3⟩ | ⟨h1, h2, h3⟩ <;> rcases k with ⟨k1, k2, k3⟩ | ⟨k1, k2, k3⟩
  · exact ⟨h2.one k2, by rw [h3, k3]⟩
  · exact absurd h1 k1
  · exact absurd k1 h1
  · exact ⟨by rw [h2, k2], by rw [h3, k3]⟩
/-- The text and the error that a program has. -/
def TOf (p : Cp) (s : ByteArray) (g : Int) : Prop := (p.May ∧ s = ⟨(cpText p).toArray⟩ ∧ g = 0) ∨ (¬ p.May ∧ s = ⟨#[]⟩ ∧ g = 50)
theorem TOf.one {p : Cp} {s t : ByteArray} {f g : Int} (h : TOf p s f) (k : TOf p t g) : s = t ∧ f = g := by
  rcases h with ⟨h1, h2, h3⟩ | ⟨h1, h2, h3⟩ <;> rcases k with ⟨k1, k2, k3⟩ | ⟨k1, k2, k3⟩
  · exact ⟨by rw [h2, k2], by rw [h3, k3]⟩
  · exact absurd h1 k1
  · exact absurd k1 h1
  · exact ⟨by rw [h2, k2], by rw [h3, k3]⟩
theorem heights_of {p : Cp} {w w' : World} {e : Ending} (h : HeightsPost p w e w') : ∃ (L : List Int) (f : Int) (AL : Option Addr) (b : Nat), e = .returned (.tuple #[.slice AL L.length L.length, .int .i64 f]) ∧ HOf p L f ∧ (0 < L.length → AL = some ⟨b, 0, none⟩ ∧ w.heap.size ≤ b ∧ IntBlk w' b L) := by
  rcases h.1 with ⟨b, l, hw, ht, rfl, hb, hi⟩ | ⟨hbad, rfl⟩
  · exact ⟨l, 0, _, b, rfl, .inl ⟨⟨hw, l, ht⟩, ht, rfl⟩, fun _ => ⟨rfl, hb, hi⟩⟩
  · exact ⟨[], 50, _, 0, rfl, .inr ⟨Cp.may_not hbad, rfl, rfl⟩, fun h => absurd h (by simp)⟩
theorem rheights_of {p : Cp} {w w' : World} {e : Ending} (h : RHeightsPost p w e w') : ∃ (L : List Int) (f : Int) (AW : Option Addr) (c : Nat), e = .returned (.tuple #[.slice AW L.length c, .int .i64 f]) ∧ HOf p L f ∧ IntRow w' AW L ∧ L.length ≤ 4000 := by
  rcases h.1 with ⟨b, c, l, hw, ht, rfl, hi⟩ | ⟨hbad, rfl⟩
  · have hl := ht.len
    have h4 := (Cp.whole_parts hw).2.2.1
    exact ⟨l, 0, some ⟨b, 0, none⟩, c, by rw [hl], .inl ⟨⟨hw, l, ht⟩, ht, rfl⟩, hi.row, by omega⟩
  · exact ⟨[], 50, none, 0, rfl, .inr ⟨Cp.may_not hbad, rfl, rfl⟩, fun k hk => absurd hk (by simp), by simp⟩
theorem text_of {p : Cp} {e : Ending} (h : p.May → e = .returned (.tuple #[.string ⟨(cpText p).toArray⟩, .int .i64 0])) (h2 : ¬ p.May → e = .returned (.tuple #[.string ⟨#[]⟩, .int .i64 50])) : ∃ (s : ByteArray) (g : Int), e = .returned (.tuple #[.string s, .int .i64 g]) ∧ TOf p s g := by
  by_cases hm : p.May
  · exact ⟨_, _, h hm, .inl ⟨hm, rfl, rfl⟩⟩
  · exact ⟨_, _, h2 hm, .inr ⟨hm, rfl, rfl⟩⟩

set_option maxHeartbeats 8000000 in
set_option maxRecDepth 100000 in
theorem codeTells_walk (A B A1 B1 : Option Addr) (cA cB cA1 cB1 : Nat) (p q : Cp) (w : World) (hI : CpIn w A cA B cB p) (hJ : CpIn w A1 cA1 B1 cB1 q) (hT : CodeTabs w) :
    Calls Tryd.prog 6 #[.agg #[.slice A p.code.length cA, .int .i64 p.vars, .slice B p.arrays.length cB], .agg #[.slice A1 q.code.length cA1, .int .i64 q.vars, .slice B1 q.arrays.length cB1]] w fun e w' => e = .returned (.bool true) ∧ Below w.heap.size w w' := by
  have mixed : Tryd.prog.follows .mixedOrders = true := by kernel_rfl
  have hb1 : Below w.heap.size w ((w.alloc (.cells #[.slice A p.code.length cA, .int .i64 p.vars, .slice B p.arrays.length cB] 25)).alloc (.cells #[.slice A1 q.code.length cA1, .int .i64 q.vars, .slice B1 q.arrays.length cB1] 25)) := ((Below.refl _ _).alloc (Nat.le_refl _) _).alloc (by simp) _
  have hP1 : PgAt ((w.alloc (.cells #[.slice A p.code.length cA, .int .i64 p.vars, .slice B p.arrays.length cB] 25)).alloc (.cells #[.slice A1 q.code.length cA1, .int .i64 q.vars, .slice B1 q.arrays.length cB1] 25)) w.heap.size A p.code.length cA p.vars B p.arrays.length cB := PgAt.new.below ((Below.refl _ _).alloc (Nat.le_refl _) _)
  have hQ1 : PgAt ((w.alloc (.cells #[.slice A p.code.length cA, .int .i64 p.vars, .slice B p.arrays.length cB] 25)).alloc (.cells #[.slice A1 q.code.length cA1, .int .i64 q.vars, .slice B1 q.arrays.length cB1] 25)) (w.alloc (.cells #[.slice A p.code.length cA, .int .i64 p.vars, .slice B p.arrays.length cB] 25)).heap.size A1 q.code.length cA1 q.vars B1 q.arrays.length cB1 := PgAt.new
  have HI := Lib.hid (hI.below hb1)
  have HJ := Lib.hid (hJ.below hb1)
  have HT := Lib.hid (hT.below hb1)
  have hlc := hI.lc
  have hla := hI.la
  have hlc1 := hJ.lc
  have hla1 := hJ.la
  have hvo := hI.vok
  have HB := Lib.hid hb1
  clear hI hJ hT hb1
  go_enter Tryd.func6, Tryd.ntmps6
  go_upto_region 1 with fail
  generalize (w.alloc (.cells #[.slice A p.code.length cA, .int .i64 p.vars, .slice B p.arrays.length cB] 25)).alloc (.cells #[.slice A1 q.code.length cA1, .int .i64 q.vars, .slice B1 q.arrays.length cB1] 25) = w1 at *
  have hsz : (w.alloc (.cells #[.slice A p.code.length cA, .int .i64 p.vars, .slice B p.arrays.length cB] 25)).heap.size = w.heap.size + 1 := by simp
  rw [hsz] at hQ1
  have q0 := hP1.g0
  have q1 := hP1.g1
  have q2 := hP1.g2
  have HP1 := Lib.hid hP1
  have HQ1 := Lib.hid hQ1
  clear hP1 hQ1 hsz
  go_wp2_with fail
  refine (great_any A B cA cB p.code.length p.arrays.length p.vars w1).mono ?_
  rintro e w2 ⟨rfl, hg2⟩
  have hb2 := hg2.below
  have hP2 := HP1.out.below hb2
  have hQ2 := HQ1.out.below hb2
  have HB2 := Lib.hid (HB.out.trans (hb2.mono HB.out.size))
  have HW12 := Lib.hid hb2
  clear q0 q1 q2 hg2 hb2
  have q0 := hQ2.g0
  have q1 := hQ2.g1
  have q2 := hQ2.g2
  have HP2 := Lib.hid hP2
  have HQ2 := Lib.hid hQ2
  clear hP2 hQ2
  cases hgr : (decide (400 < p.code.length) || decide (100 < p.arrays.length))
  case true =>
    clear hgr
    go_wp2_with fail
    go_ret
    exact ⟨rfl, HB2.out⟩
  have hn4 : p.code.length ≤ 400 ∧ p.arrays.length ≤ 100 := by
    simp only [Bool.or_eq_false_iff, decide_eq_false_iff_not] at hgr
    omega
  clear hgr
  go_wp2_with fail
  refine (great_any A1 B1 cA1 cB1 q.code.length q.arrays.length q.vars w2).mono ?_
  rintro e w3 ⟨rfl, hg3⟩
  have hb3 := hg3.below
  have HB3 := Lib.hid (HB2.out.trans (hb3.mono HB2.out.size))
  have HW13 := Lib.hid (HW12.out.trans (hb3.mono HW12.out.size))
  have HP3 := Lib.hid (HP2.out.below hb3)
  have HQ3 := Lib.hid (HQ2.out.below hb3)
  clear q0 q1 q2 hg3 hb3 HP2 HQ2 HB2 HW12
  cases hgr : (decide (400 < q.code.length) || decide (100 < q.arrays.length))
  case true =>
    clear hgr
    go_wp2_with fail
    go_ret
    exact ⟨rfl, HB3.out⟩
  have hn5 : q.code.length ≤ 400 ∧ q.arrays.length ≤ 100 := by
    simp only [Bool.or_eq_false_iff, decide_eq_false_iff_not] at hgr
    omega
  clear hgr
  have q0 := HP3.out.g0
  have q1 := HP3.out.g1
  have q2 := HP3.out.g2
  have HI3 := Lib.hid (HI.out.below HW13.out)
  go_wp2_with fail
  refine (copy_any A B cA cB p w3 HI3.out (by omega) (by omega)).mono ?_
  rintro e wA ⟨⟨A2, B2, cA2, cB2, rfl, ho1, ho2⟩, hbA⟩
  clear q0 q1 q2
  have hIA := cpIn_own (q := p) ho1 ho2 HI3.out.ok HI3.out.aok hvo
  have hbZ := (Below.refl wA.heap.size wA).alloc (Nat.le_refl _) (.cells #[.slice A2 p.code.length cA2, .int .i64 p.vars, .slice B2 p.arrays.length cB2] 25)
  have hb3Z := hbA.alloc hbA.size (.cells #[.slice A2 p.code.length cA2, .int .i64 p.vars, .slice B2 p.arrays.length cB2] 25)
  have hMZ : PgAt (wA.alloc (.cells #[.slice A2 p.code.length cA2, .int .i64 p.vars, .slice B2 p.arrays.length cB2] 25)) wA.heap.size A2 p.code.length cA2 p.vars B2 p.arrays.length cB2 := PgAt.new
  have HIM := Lib.hid (hIA.below hbZ)
  have HB3Z := Lib.hid hb3Z
  have HMZ := Lib.hid hMZ
  clear ho1 ho2 hbA hIA hbZ hb3Z hMZ
  go_upto_region 4 with fail
  generalize wA.alloc (.cells #[.slice A2 p.code.length cA2, .int .i64 p.vars, .slice B2 p.arrays.length cB2] 25) = w4 at *
  generalize wA.heap.size = M at *
  have HP4 := Lib.hid (HP3.out.below HB3Z.out)
  have HQ4 := Lib.hid (HQ3.out.below HB3Z.out)
  have HI4 := Lib.hid (HI3.out.below HB3Z.out)
  have HJ4 := Lib.hid ((HJ.out.below HW13.out).below HB3Z.out)
  have HT4 := Lib.hid ((HT.out.below HW13.out).below HB3Z.out)
  have HB4 := Lib.hid (HB3.out.trans (HB3Z.out.mono HB3.out.size))
  clear HP3 HQ3 HI3 HJ HT HB3 HB3Z HW13 HI HB HP1 HQ1
  have q0 := HP4.out.g0
  have q1 := HP4.out.g1
  have q2 := HP4.out.g2
  go_wp2_with fail
  refine (rheights_any A B cA cB p w4 HI4.out).mono ?_
  rintro e w5 hH
  have hb5 := hH.2
  obtain ⟨L, f, AW, cW, rfl, hho, hrow, hL4⟩ := rheights_of hH
  have HHO := Lib.hid hho
  have HROW5 := Lib.hid hrow
  have HP5 := Lib.hid (HP4.out.below hb5)
  have HB45 := Lib.hid hb5
  clear hho hrow hH hb5 q0 q1 q2
  have q0 := HP5.out.g0
  have q1 := HP5.out.g1
  have q2 := HP5.out.g2
  go_wp2_with fail
  refine (rtext_any A B cA cB p w5 (HI4.out.below HB45.out)).mono ?_
  rintro e w6 ⟨ht1, ht2, hb6⟩
  obtain ⟨s, gg, rfl, hto⟩ := text_of ht1 ht2
  have HTO := Lib.hid hto
  have HB46 := Lib.hid (HB45.out.trans (hb6.mono HB45.out.size))
  have HROW6 := Lib.hid (HROW5.out.below hb6)
  have HP6 := Lib.hid (HP5.out.below hb6)
  have HQ6 := Lib.hid (HQ4.out.below HB46.out)
  have HM6 := Lib.hid (HMZ.out.below HB46.out)
  have HI6 := Lib.hid (HI4.out.below HB46.out)
  have HJ6 := Lib.hid (HJ4.out.below HB46.out)
  have HIM6 := Lib.hid (HIM.out.below HB46.out)
  have HT6 := Lib.hid (HT4.out.below HB46.out)
  have HB6 := Lib.hid (HB4.out.trans (HB46.out.mono HB4.out.size))
  clear ht1 ht2 hb6 hto q0 q1 q2 HB45 HROW5 HP5 HP4 HQ4 HMZ HI4 HJ4 HIM HT4 HB4 HB46
  go_wp2_with fail
  go_loopg [10] 3 (fun g i wx => ∃ t : Nat, i = .int .i64 t ∧ t ≤ 2 ∧ 2 - t < g ∧ Hid (Below w6.heap.size w6 wx))
  case atStart => exact ⟨0, rfl, by omega, by omega, Below.refl _ _⟩
  case round =>
    obtain ⟨t, rfl, ht, hg, HBW⟩ := hrel
    obtain ⟨g, rfl⟩ : ∃ g, gk = g + 1 := ⟨gk - 1, by omega⟩
    generalize hwt : wr = wt at *
    clear hwt
    by_cases hlt : t < 2
    case neg =>
      have HE := Lib.hid (HB6.out.trans (HBW.out.mono HB6.out.size))
      go_wp2_with fail
      go_ret
      exact ⟨rfl, HE.out⟩
    have hM := HM6.out.below HBW.out
    have q0 := hM.g0
    have q1 := hM.g1
    have q2 := hM.g2
    clear hM
    go_wp2_with fail
    refine (heights_any A2 B2 cA2 cB2 p wt (HIM6.out.below HBW.out)).mono ?_
    rintro e w7 hH
    have hb7 := hH.2
    obtain ⟨L', f', AL, b, rfl, hho, hblk⟩ := heights_of hH
    obtain ⟨rfl, rfl⟩ := HHO.out.one hho
    have HBLK := Lib.hid hblk
    have HB7 := Lib.hid hb7
    have HW67 := Lib.hid (HBW.out.trans (hb7.mono HBW.out.size))
    clear hho hblk hH hb7 q0 q1 q2
    have hM := HM6.out.below HW67.out
    have q0 := hM.g0
    have q1 := hM.g1
    have q2 := hM.g2
    clear hM
    go_wp2_with fail
    refine (text_any A2 B2 cA2 cB2 p w7 (HIM6.out.below HW67.out) (HT6.out.below HW67.out)).mono ?_
    rintro e w8 ⟨ht1, ht2, hb8⟩
    obtain ⟨s', gg', rfl, hto⟩ := text_of ht1 ht2
    obtain ⟨rfl, rfl⟩ := HTO.out.one hto
    have HB8 := Lib.hid (HB7.out.trans (hb8.mono HB7.out.size))
    have HBLK8 := Lib.hid (fun h => (show AL = some ⟨b, 0, none⟩ ∧ wt.heap.size ≤ b ∧ IntBlk w8 b L from ⟨(HBLK.out h).1, (HBLK.out h).2.1, (HBLK.out h).2.2.below hb8⟩))
    have HW68 := Lib.hid (HW67.out.trans (hb8.mono HW67.out.size))
    clear ht1 ht2 hb8 hto q0 q1 q2 HB7 HBLK HW67
    go_upto_region 11 with fail
    have k0 := fun d os => cell_regrown (HP6.out.below HW68.out).g0 d os
    have k1 := fun d os => cell_regrown (HP6.out.below HW68.out).g1 d os
    have k2 := fun d os => cell_regrown (HP6.out.below HW68.out).g2 d os
    have k3 := fun d os => cell_regrown (HQ6.out.below HW68.out).g0 d os
    have k4 := fun d os => cell_regrown (HQ6.out.below HW68.out).g1 d os
    have k5 := fun d os => cell_regrown (HQ6.out.below HW68.out).g2 d os
    have k6 := fun d os => cell_regrown (HM6.out.below HW68.out).g0 d os
    have k7 := fun d os => cell_regrown (HM6.out.below HW68.out).g1 d os
    have k8 := fun d os => cell_regrown (HM6.out.below HW68.out).g2 d os
    have HC1 := Lib.hid (fun w' (h : Below w8.heap.size w8 w') => may_any A2 B2 cA2 cB2 p w' ((HIM6.out.below HW68.out).below h))
    have HC2 := Lib.hid (fun w' (h : Below w8.heap.size w8 w') => rmay_any A B cA cB p w' ((HI6.out.below HW68.out).below h))
    have HC3 := Lib.hid (fun w' (h : Below w8.heap.size w8 w') => same_any A2 B2 A1 B1 cA2 cB2 cA1 cB1 p q w' ((HIM6.out.below HW68.out).below h) ((HJ6.out.below HW68.out).below h))
    have HC4 := Lib.hid (fun w' (h : Below w8.heap.size w8 w') => rsame_any A B A1 B1 cA cB cA1 cB1 p q w' ((HI6.out.below HW68.out).below h) ((HJ6.out.below HW68.out).below h))
    have HC5 := Lib.hid (fun w' (h : Below w8.heap.size w8 w') => rsame_any A2 B2 A B cA2 cB2 cA cB p p w' ((HIM6.out.below HW68.out).below h) ((HI6.out.below HW68.out).below h))
    rw [(Cp.same_iff p p).2 rfl] at HC5
    generalize p.mayB = mb at *
    generalize p.same q = sb at *
    refine wp_region_quiet_below (by assumption) (by kernel_rfl) ?_
    repeat (quiet_step (first | (with_reducible exact Calls.regrown_of (HC1.out _ (below_regrown _ _ _))) | (with_reducible exact Calls.regrown_of (HC2.out _ (below_regrown _ _ _))) | (with_reducible exact Calls.regrown_of (HC3.out _ (below_regrown _ _ _))) | (with_reducible exact Calls.regrown_of (HC4.out _ (below_regrown _ _ _))) | (with_reducible exact Calls.regrown_of (HC5.out _ (below_regrown _ _ _)))))
    refine wpQuiet_nil ?_
    intro _ hw'
    obtain ⟨⟨dq, osq⟩, hw''⟩ := hw'
    subst hw''
    have hb9 := below_regrown w8 dq osq
    generalize hw9 : grow (redrawn w8 dq) osq = w9 at *
    have HB9 := Lib.hid (HB8.out.trans (hb9.mono HB8.out.size))
    have HBLK9 := Lib.hid (fun h => (show AL = some ⟨b, 0, none⟩ ∧ wt.heap.size ≤ b ∧ IntBlk w9 b L from ⟨(HBLK8.out h).1, (HBLK8.out h).2.1, (HBLK8.out h).2.2.below hb9⟩))
    clear hb9 hw9 k0 k1 k2 k3 k4 k5 k6 k7 k8 HC1 HC2 HC3 HC4 HC5 HBLK8 HB8 HW68
    go_wp2_with fail
    go_loopg [15] (L.length + 1) (fun g i wx => ∃ k : Nat, i = .int .i64 k ∧ k ≤ L.length ∧ L.length - k < g ∧ Hid (0 < L.length → AL = some ⟨b, 0, none⟩ ∧ wt.heap.size ≤ b ∧ ∃ N, IntBlk wx b N ∧ N.drop k = L.drop k) ∧ Hid (Below wt.heap.size wt wx))
    case atStart => exact ⟨0, rfl, by omega, by omega, Lib.hid (fun h => ⟨(HBLK9.out h).1, (HBLK9.out h).2.1, L, (HBLK9.out h).2.2, rfl⟩), HB9⟩
    case round =>
      obtain ⟨k, rfl, hk, hg2, HBK, HBX⟩ := hrel
      obtain ⟨g2, rfl⟩ : ∃ g2, gk = g2 + 1 := ⟨gk - 1, by omega⟩
      by_cases hlt2 : k < L.length
      · obtain ⟨rfl, hbt, N, hblk, hdr⟩ := HBK.out (by omega)
        have hNL : N.length = L.length := by
          have h := congrArg List.length hdr
          simp only [List.length_drop] at h
          omega
        have hkN : k < N.length := by omega
        have hdr2 := hdr
        rw [List.drop_eq_getElem_cons hlt2, List.drop_eq_getElem_cons hkN] at hdr2
        injection hdr2 with hNk hdr3
        have c0 := hblk.get k hkN
        rw [hNk] at c0
        obtain ⟨b2, o2, rfl, _, d0⟩ := (HROW6.out.below (HBW.out.trans (HBX.out.mono HBW.out.size))) k hlt2
        have HDR := Lib.hid (show (N.set k (-5)).drop (k + 1) = L.drop (k + 1) by rw [List.drop_set_of_lt (by omega)]; exact hdr3)
        have HBL := Lib.hid hblk
        generalize L[k] = y at *
        clear hdr hdr3 hNk hblk HBK HBLK9
        go_upto_region 16 with fail
        go_quiet (fail)
        have hbd : Below wr.heap.size wr (wr.drewN nq) := Gr.below ⟨nq, #[], by rw [grow_empty]⟩
        clear c0 d0
        generalize wr.drewN nq = wx at *
        have hblk := HBL.out.below hbd
        have c0 := hblk.get k hkN
        have f0 := hblk.fz k
        have l0 := hblk.lt
        have HBL2 := Lib.hid (hblk.set k (-5))
        have HBX2 := Lib.hid ((HBX.out.trans (hbd.mono HBX.out.size)).setCell (p := ⟨b, k, none⟩) hbt (.int .i64 (-5)))
        clear hblk hbd HBL HBX
        go_wp2_with fail
        go_roundg g2
        case measure => omega
        case rel => exact ⟨k + 1, by go_num, by omega, by omega, Lib.hid (fun _ => ⟨(by trivial), hbt, _, HBL2.out, HDR.out⟩), HBX2⟩
      · have HE := Lib.hid (HBW.out.trans (HBX.out.mono HBW.out.size))
        clear HBK HBLK9 HB9
        go_wp2_with fail
        go_roundg g
        case measure => omega
        case rel => exact ⟨t + 1, by go_num, by omega, by omega, HE⟩

set_option maxRecDepth 100000 in
theorem codeTells_calls {H : Type} (enc : TypeId × Value → H) (W : World) (base : Nat) (args : Array Value) (ds : List (DataW H)) (p : List MemPlace)
    (hval : ∀ (j : Nat) t v, Tryd.f6.params[j]? = some t → args[j]? = some v → Value.okWide Tryd.prog W .any base t v)
    (hA : DataW.TrodAll enc Tryd.prog W 0 (fun _ => true) true Tryd.f6.params.toList args.toList ds p)
    (hsz : (DataW.weightsEach Tryd.prog (Tryd.f6.params.toList ++ Rows.codeTellsSpec.plain.varTypes Tryd.prog) (ds ++ [])).all (· ≤ reachBytes) = true)
    (hL : laidMetH Tryd.prog Rows.codeTellsRow.laid W) :
    Calls Tryd.prog 6 args W fun e W' => e = .returned (.bool true) ∧ Below W.heap.size W W' ∧ (Rows.codeTellsSpec.fn H (ds ++ [])) = { results := [.lit (.bool true)], args := ds } := by
  have hT : CodeTabs W := codeTabs_of (by kernel_rfl) hL (by repeat (first | exact List.mem_cons_self | apply List.mem_cons_of_mem)) (by repeat (first | exact List.mem_cons_self | apply List.mem_cons_of_mem))
  rw [Tryd.params6] at hA hval
  obtain ⟨v0, v1, d0, d1, p0, p1, rfl, rfl, rfl, h0, h1⟩ := trodAll_two hA
  obtain ⟨A, B, cA, cB, q, rfl, hI⟩ := open_prog5 (hval 0 25 v0 rfl rfl) h0
  obtain ⟨A1, B1, cA1, cB1, q1, rfl, hJ⟩ := open_prog5 (hval 1 25 v1 rfl rfl) h1
  exact (codeTells_walk A B A1 B1 cA cB cA1 cB1 q q1 W hI hJ hT).mono fun e W' h => ⟨h.1, h.2, rfl⟩
end Go.Proofs.YtaanhkepimjelaaDoor
