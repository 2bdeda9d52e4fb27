/- The law CodeBack: its walk, and what its row asks. -/
import Derived.Test.YtaanhkepimjelaaDoorCodeL
import Derived.Test.YtaanhkepimjelaaDoorCodeF
import Derived.Test.YtaanhkepimjelaaDoorCodeX
import Derived.Test.YtaanhkepimjelaaDoorCodeO
import Derived.Test.YtaanhkepimjelaaDoorCodeTabs
import Derived.Test.YtaanhkepimjelaaDoorRow
import Derived.Test.YtaanhkepimjelaaDoorParseTabs
namespace Go.Proofs.YtaanhkepimjelaaDoor
open Go.ChangeShapes Go.WideShapes Go.ChangeAt Go.RowKit Go.Sort
open Go.ChangeMaps (open_string shut_string)
set_option linter.unusedVariables false
set_option linter.unusedSimpArgs false

theorem text_one {p q : Cp} (hp : p.May) (hq : q.May) (h1 : ∀ i ∈ p.code, i.Ok) (h2 : ∀ n ∈ p.arrays, -9223372036854775808 ≤ n ∧ n ≤ 9223372036854775807) (h3 : ∀ i ∈ q.code, i.Ok) (h4 : ∀ n ∈ q.arrays, -9223372036854775808 ≤ n ∧ n ≤ 9223372036854775807) (h : (⟨(cpText q).toArray⟩ : ByteArray) = ⟨(cpText p).toArray⟩) : q = p := by
  have e1 := read_may hq h3 h4
  have e2 := read_may hp h1 h2
  have e3 := lines_of_text h
  rw [show splitC 10 (⟨(cpText p).toArray⟩ : ByteArray).data.toList = splitC 10 (cpText p) from rfl] at e3
  rw [← e3, e2] at e1
  exact e1.symm

set_option maxHeartbeats 8000000 in
set_option maxRecDepth 100000 in
theorem codeBack_walk (A B : Option Addr) (cA cB : Nat) (p : Cp) (s : ByteArray) (w : World) (hI : CpIn w A cA B cB p) (hs : s.size ≤ 9223372036854775807) (hT : CodeTabs w) (hU : ParseTabs w) :
    Calls Tryd.prog 8 #[.agg #[.slice A p.code.length cA, .int .i64 p.vars, .slice B p.arrays.length cB], .string s] w fun e w' => e = .returned (.bool true) ∧ Below w.heap.size w w' := by
  have hlc := hI.lc
  have hla := hI.la
  have hvo := hI.vok
  have hb1 : Below w.heap.size w (w.alloc (.cells #[.slice A p.code.length cA, .int .i64 p.vars, .slice B p.arrays.length cB] 25)) := (Below.refl _ _).alloc (Nat.le_refl _) _
  have hP1 : PgAt (w.alloc (.cells #[.slice A p.code.length cA, .int .i64 p.vars, .slice B p.arrays.length cB] 25)) w.heap.size A p.code.length cA p.vars B p.arrays.length cB := PgAt.new
  have HI := Lib.hid hI
  have HT := Lib.hid hT
  have HU := Lib.hid hU
  clear hI hT hU
  go_enter Tryd.func8, Tryd.ntmps8
  go_wp2_with fail
  generalize w.alloc (.cells #[.slice A p.code.length cA, .int .i64 p.vars, .slice B p.arrays.length cB] 25) = w1 at *
  refine (awake_any w1 (HT.out.below hb1)).mono ?_
  rintro e w2 ⟨rfl, hb2⟩
  have HP2 := Lib.hid (hP1.below hb2)
  have HB2 := Lib.hid (hb1.trans (hb2.mono hb1.size))
  clear hP1 hb1 hb2
  have q0 := HP2.out.g0
  have q1 := HP2.out.g1
  have q2 := HP2.out.g2
  go_wp2_with fail
  refine (great_any A B cA cB p.code.length p.arrays.length p.vars w2).mono ?_
  rintro e w3 ⟨rfl, hg3⟩
  have hb3 := hg3.below
  have HP3 := Lib.hid (HP2.out.below hb3)
  have HB3 := Lib.hid (HB2.out.trans (hb3.mono HB2.out.size))
  clear q0 q1 q2 hg3 hb3 HP2 HB2
  cases hgr : (decide (400 < p.code.length) || decide (100 < p.arrays.length))
  case true =>
    clear hgr
    go_wp2_with fail
    go_ret
    exact ⟨rfl, HB3.out⟩
  have hn4 : p.code.length ≤ 400 ∧ p.arrays.length ≤ 100 := by
    simp only [Bool.or_eq_false_iff, decide_eq_false_iff_not] at hgr
    omega
  clear hgr
  by_cases h6 : 6000 < s.size
  · go_wp2_with fail
    go_ret
    exact ⟨rfl, HB3.out⟩
  have q0 := HP3.out.g0
  have q1 := HP3.out.g1
  have q2 := HP3.out.g2
  go_wp2_with fail
  refine (text_any A B cA cB p w3 (HI.out.below HB3.out) (HT.out.below HB3.out)).mono ?_
  rintro e w4 ⟨ht1, ht2, hb4⟩
  have HP4 := Lib.hid (HP3.out.below hb4)
  have HB4 := Lib.hid (HB3.out.trans (hb4.mono HB3.out.size))
  clear q0 q1 q2 hb4 HP3 HB3
  have q0 := HP4.out.g0
  have q1 := HP4.out.g1
  have q2 := HP4.out.g2
  have HM4 := Lib.hid (may_any A B cA cB p w4 (HI.out.below HB4.out))
  by_cases hmay : p.May
  case pos =>
    obtain rfl := ht1 hmay
    have hmb := Cp.mayB_true hmay
    rw [hmb] at HM4
    have HMAY := Lib.hid hmay
    have hsz : (cpText p).length ≤ 20000 := by
      have h1 := headText_len p.vars hvo.1 hvo.2
      have h2 := arrText_len p.arrays HI.out.aok
      have h3 := codeText_len p.code HI.out.ok
      unfold cpText
      simp only [List.length_append, List.length_cons, List.length_nil]
      omega
    clear hmb hmay ht1 ht2
    go_wp2_with fail
    refine HM4.out.mono ?_
    rintro e w5 ⟨rfl, hb5⟩
    have HP5 := Lib.hid (HP4.out.below hb5)
    have HB5 := Lib.hid (HB4.out.trans (hb5.mono HB4.out.size))
    clear q0 q1 q2 hb5 HP4 HB4 HM4
    go_wp2_with fail
    refine (parse_any ⟨(cpText p).toArray⟩ (by rw [mk_size]; omega) w5 (HU.out.below HB5.out) (HT.out.below HB5.out)).mono ?_
    rintro e w6 ⟨q, f, A2, B2, cA2, cB2, rfl, hJ, hpo, hb6⟩
    rcases hpo with ⟨hqm, hqt, rfl⟩ | ⟨hno, _, _⟩
    case inr => exact absurd rfl (hno p HMAY.out HI.out.ok HI.out.aok)
    obtain rfl := (text_one HMAY.out hqm HI.out.ok HI.out.aok hJ.ok hJ.aok hqt).symm
    have hab : Below w6.heap.size w6 (w6.alloc (.cells #[.slice A2 p.code.length cA2, .int .i64 p.vars, .slice B2 p.arrays.length cB2] 25)) := (Below.refl _ _).alloc (Nat.le_refl _) _
    have hbw := HB5.out.trans (hb6.mono HB5.out.size)
    have HB7 := Lib.hid (hbw.trans (hab.mono hbw.size))
    have hQ7 : PgAt (w6.alloc (.cells #[.slice A2 p.code.length cA2, .int .i64 p.vars, .slice B2 p.arrays.length cB2] 25)) w6.heap.size A2 p.code.length cA2 p.vars B2 p.arrays.length cB2 := PgAt.new
    have HJ7 := Lib.hid (hJ.below hab)
    have HP7 := Lib.hid ((HP5.out.below hb6).below hab)
    clear hab hbw hJ hqm hqt hb6 HP5 HB5
    go_upto_region 10 with fail
    generalize w6.alloc (.cells #[.slice A2 p.code.length cA2, .int .i64 p.vars, .slice B2 p.arrays.length cB2] 25) = w7 at *
    generalize w6.heap.size = Q8 at *
    have p0 := HP7.out.g0
    have p1 := HP7.out.g1
    have p2 := HP7.out.g2
    have s0 := hQ7.g0
    have s1 := hQ7.g1
    have s2 := hQ7.g2
    clear hQ7
    go_wp2_with fail
    refine (rsame_any A B A2 B2 cA cB cA2 cB2 p p w7 (HI.out.below HB7.out) HJ7.out).mono ?_
    rintro e w8 ⟨rfl, hb8⟩
    rw [(Cp.same_iff p p).2 rfl]
    have HB8 := Lib.hid (HB7.out.trans (hb8.mono HB7.out.size))
    clear hb8 p0 p1 p2 s0 s1 s2 HB7 HJ7
    go_wp2_with fail
    refine (parse_any s (by omega) w8 (HU.out.below HB8.out) (HT.out.below HB8.out)).mono ?_
    rintro e wA ⟨q, f, A3, B3, cA3, cB3, rfl, hJ3, hpo, hbA⟩
    have hab : Below wA.heap.size wA (wA.alloc (.cells #[.slice A3 q.code.length cA3, .int .i64 q.vars, .slice B3 q.arrays.length cB3] 25)) := (Below.refl _ _).alloc (Nat.le_refl _) _
    have hbw := HB8.out.trans (hbA.mono HB8.out.size)
    have HBB := Lib.hid (hbw.trans (hab.mono hbw.size))
    have hQB : PgAt (wA.alloc (.cells #[.slice A3 q.code.length cA3, .int .i64 q.vars, .slice B3 q.arrays.length cB3] 25)) wA.heap.size A3 q.code.length cA3 q.vars B3 q.arrays.length cB3 := PgAt.new
    have HJB := Lib.hid (hJ3.below hab)
    have HPO := Lib.hid hpo
    clear hab hbw hJ3 hpo hbA
    go_upto_region 13 with fail
    generalize wA.alloc (.cells #[.slice A3 q.code.length cA3, .int .i64 q.vars, .slice B3 q.arrays.length cB3] 25) = wB at *
    generalize wA.heap.size = Q9 at *
    have s0 := hQB.g0
    have s1 := hQB.g1
    have s2 := hQB.g2
    clear hQB
    rcases HPO.out with ⟨hqm, hqt, rfl⟩ | ⟨_, hqe, rfl⟩
    · clear HPO
      have HQM := Lib.hid hqm
      have HQT := Lib.hid hqt
      clear hqm hqt
      go_wp2_with fail
      refine (text_any A3 B3 cA3 cB3 q wB HJB.out (HT.out.below HBB.out)).mono ?_
      rintro e wC ⟨ht1, _, hbC⟩
      obtain rfl := ht1 HQM.out
      have HE := Lib.hid (HBB.out.trans (hbC.mono HBB.out.size))
      rw [HQT.out]
      clear ht1 hbC s0 s1 s2
      go_wp2_with fail
      go_ret
      exact ⟨rfl, HE.out⟩
    · clear HPO
      subst hqe
      go_wp2_with fail
      refine (rsame_any A3 B3 none none cA3 cB3 0 0 ⟨[], 0, []⟩ ⟨[], 0, []⟩ wB HJB.out (cpIn_empty wB)).mono ?_
      rintro e wC ⟨rfl, hbC⟩
      rw [(Cp.same_iff ⟨[], 0, []⟩ ⟨[], 0, []⟩).2 rfl]
      have HE := Lib.hid (HBB.out.trans (hbC.mono HBB.out.size))
      clear hbC s0 s1 s2
      go_wp2_with fail
      go_ret
      exact ⟨rfl, HE.out⟩
  case neg =>
    obtain rfl := ht2 hmay
    have hmb := Cp.mayB_false hmay
    rw [hmb] at HM4
    clear hmb hmay ht1 ht2
    go_wp2_with fail
    refine HM4.out.mono ?_
    rintro e w5 ⟨rfl, hb5⟩
    have HB5 := Lib.hid (HB4.out.trans (hb5.mono HB4.out.size))
    clear q0 q1 q2 hb5 HP4 HB4 HM4
    go_wp2_with fail
    refine (parse_any s (by omega) w5 (HU.out.below HB5.out) (HT.out.below HB5.out)).mono ?_
    rintro e wA ⟨q, f, A3, B3, cA3, cB3, rfl, hJ3, hpo, hbA⟩
    have hab : Below wA.heap.size wA (wA.alloc (.cells #[.slice A3 q.code.length cA3, .int .i64 q.vars, .slice B3 q.arrays.length cB3] 25)) := (Below.refl _ _).alloc (Nat.le_refl _) _
    have hbw := HB5.out.trans (hbA.mono HB5.out.size)
    have HBB := Lib.hid (hbw.trans (hab.mono hbw.size))
    have hQB : PgAt (wA.alloc (.cells #[.slice A3 q.code.length cA3, .int .i64 q.vars, .slice B3 q.arrays.length cB3] 25)) wA.heap.size A3 q.code.length cA3 q.vars B3 q.arrays.length cB3 := PgAt.new
    have HJB := Lib.hid (hJ3.below hab)
    have HPO := Lib.hid hpo
    clear hab hbw hJ3 hpo hbA
    go_upto_region 13 with fail
    generalize wA.alloc (.cells #[.slice A3 q.code.length cA3, .int .i64 q.vars, .slice B3 q.arrays.length cB3] 25) = wB at *
    generalize wA.heap.size = Q9 at *
    have s0 := hQB.g0
    have s1 := hQB.g1
    have s2 := hQB.g2
    clear hQB
    rcases HPO.out with ⟨hqm, hqt, rfl⟩ | ⟨_, hqe, rfl⟩
    · clear HPO
      have HQM := Lib.hid hqm
      have HQT := Lib.hid hqt
      clear hqm hqt
      go_wp2_with fail
      refine (text_any A3 B3 cA3 cB3 q wB HJB.out (HT.out.below HBB.out)).mono ?_
      rintro e wC ⟨ht1, _, hbC⟩
      obtain rfl := ht1 HQM.out
      have HE := Lib.hid (HBB.out.trans (hbC.mono HBB.out.size))
      rw [HQT.out]
      clear ht1 hbC s0 s1 s2
      go_wp2_with fail
      go_ret
      exact ⟨rfl, HE.out⟩
    · clear HPO
      subst hqe
      go_wp2_with fail
      refine (rsame_any A3 B3 none none cA3 cB3 0 0 ⟨[], 0, []⟩ ⟨[], 0, []⟩ wB HJB.out (cpIn_empty wB)).mono ?_
      rintro e wC ⟨rfl, hbC⟩
      rw [(Cp.same_iff ⟨[], 0, []⟩ ⟨[], 0, []⟩).2 rfl]
      have HE := Lib.hid (HBB.out.trans (hbC.mono HBB.out.size))
      clear hbC s0 s1 s2
      go_wp2_with fail
      go_ret
      exact ⟨rfl, HE.out⟩

set_option maxRecDepth 100000 in
theorem codeBack_calls {H : Type} (enc : TypeId × Value → H) (W : World) (base : Nat) (args : Array Value) (ds : List (DataW H)) (p : List MemPlace)
    (hval : ∀ (j : Nat) t v, Tryd.f8.params[j]? = some t → args[j]? = some v → Value.okWide Tryd.prog W .any base t v)
    (hA : DataW.TrodAll enc Tryd.prog W 0 (fun _ => true) true Tryd.f8.params.toList args.toList ds p)
    (hsz : (DataW.weightsEach Tryd.prog (Tryd.f8.params.toList ++ Rows.codeBackSpec.plain.varTypes Tryd.prog) (ds ++ [])).all (· ≤ reachBytes) = true)
    (hL : laidMetH Tryd.prog Rows.codeBackRow.laid W)
    (hS : W.ShapedOpen Tryd.prog) :
    Calls Tryd.prog 8 args W fun e W' => e = .returned (.bool true) ∧ Below W.heap.size W W' ∧ (Rows.codeBackSpec.fn H (ds ++ [])) = { results := [.lit (.bool true)], args := ds } := by
  have hT : CodeTabs W := codeTabs_of (by kernel_rfl) hL (by repeat (first | exact List.mem_cons_self | apply List.mem_cons_of_mem)) (by repeat (first | exact List.mem_cons_self | apply List.mem_cons_of_mem))
  have hU : ParseTabs W := parseTabs_of (by kernel_rfl) hL hS (by repeat (first | exact List.mem_cons_self | apply List.mem_cons_of_mem)) (by repeat (first | exact List.mem_cons_self | apply List.mem_cons_of_mem)) (by repeat (first | exact List.mem_cons_self | apply List.mem_cons_of_mem)) (by repeat (first | exact List.mem_cons_self | apply List.mem_cons_of_mem))
  rw [Tryd.params8] at hA hval
  obtain ⟨v0, v1, d0, d1, p0, p1, rfl, rfl, rfl, h0, h1⟩ := trodAll_two hA
  obtain ⟨A, B, cA, cB, q, rfl, hI⟩ := open_prog5 (hval 0 25 v0 rfl rfl) h0
  obtain ⟨s, rfl, rfl, rfl, hs⟩ := open_string Tryd.underlying9 (hval 1 9 v1 rfl rfl) h1
  exact (codeBack_walk A B cA cB q s W hI (by unfold maxLen at hs; omega) hT hU).mono fun e W' h => ⟨h.1, h.2, rfl⟩
end Go.Proofs.YtaanhkepimjelaaDoor
