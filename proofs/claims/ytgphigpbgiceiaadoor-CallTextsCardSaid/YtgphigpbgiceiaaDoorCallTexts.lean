/- The law CallTexts: its walk, and what its row asks. -/
import Derived.Test.YtgphigpbgiceiaaDoorClParse
import Derived.Test.YtgphigpbgiceiaaDoorRParse
import Derived.Test.YtgphigpbgiceiaaDoorClRSame
import Derived.Test.YtgphigpbgiceiaaDoorClOpen
import Derived.Test.YtgphigpbgiceiaaDoorPk44
namespace Go.Proofs.YtgphigpbgiceiaaDoor
open Go.ChangeShapes Go.WideShapes Go.ChangeAt Go.RowKit Go.Sort
open Go.ChangeMaps (open_string shut_string)
set_option linter.unusedVariables false
set_option linter.unusedSimpArgs false

/-- A text's call, or none: one answer. -/
theorem parse_one {s : ByteArray} {c d : Cl} {e f : Int}
    (h1 : (e = 0 ∧ c.Ok ∧ textB c = true ∧ (⟨(clText c ((usesF c.kind).getD [])).toArray⟩ : ByteArray) = s) ∨ (e = 160 ∧ c = zeroCl ∧ ∀ d : Cl, d.Ok → textB d = true → (⟨(clText d ((usesF d.kind).getD [])).toArray⟩ : ByteArray) ≠ s))
    (h2 : (f = 0 ∧ d.Ok ∧ textB d = true ∧ (⟨(clText d ((usesF d.kind).getD [])).toArray⟩ : ByteArray) = s) ∨ (f = 160 ∧ d = zeroCl ∧ ∀ d : Cl, d.Ok → textB d = true → (⟨(clText d ((usesF d.kind).getD [])).toArray⟩ : ByteArray) ≠ s)) : d = c ∧ f = e := by
  rcases h1 with ⟨rfl, a1, a2, a3⟩ | ⟨rfl, rfl, a1⟩
  · rcases h2 with ⟨rfl, b1, b2, b3⟩ | ⟨rfl, rfl, b1⟩
    · have e1 := candP_text c a1 a2
      have e2 := candP_text d b1 b2
      rw [show clText d ((usesF d.kind).getD []) = clText c ((usesF c.kind).getD []) from by
        have h := b3.trans a3.symm
        exact List.toArray_inj (congrArg ByteArray.data h)] at e2
      exact ⟨e2.symm.trans e1, rfl⟩
    · exact absurd a3 (b1 c a1 a2)
  · rcases h2 with ⟨rfl, b1, b2, b3⟩ | ⟨rfl, rfl, b1⟩
    · exact absurd b3 (a1 d b1 b2)
    · exact ⟨rfl, rfl⟩

set_option maxHeartbeats 16000000 in
set_option maxRecDepth 100000 in
theorem callTexts_walk (c : Cl) (A : Option Addr) (ca : Nat) (s : ByteArray) (w : World) (hc : c.Ok) (hR : IntRow w A c.reqs) (hl : c.reqs.length ≤ 9223372036854775807) (hs : s.size ≤ 9223372036854775807) (hT : TextTabs w) (hP : PowIs w) (hL : PrsTabs w) :
    Calls Tryd.prog 4 #[.agg (clCells c A ca), .string s] w fun e w' => e = .returned (.bool true) ∧ Below w.heap.size w w' := by
  obtain ⟨w1, hw1⟩ : ∃ y, y = w.alloc (.cells (clCells c A ca) 29) := ⟨_, rfl⟩
  have e1 : Below w.heap.size w w1 := by rw [hw1]; exact (Below.refl _ _).alloc (Nat.le_refl _) _
  have HX := Lib.hid (show ClBlk w1 w.heap.size c A ca by rw [hw1]; exact ClBlk.new)
  have HT := Lib.hid hT
  have HP := Lib.hid hP
  have HL := Lib.hid hL
  have HR1 := Lib.hid (hR.below e1)
  have HB := Lib.hid e1
  have HW1 := Lib.hid hw1
  have HC := Lib.hid hc
  have c8 : w1.cell? ⟨w.heap.size, 8, none⟩ = some (.slice A c.reqs.length ca) := HX.out.at.g8
  clear hT hP hL e1 hw1 hc hR
  go_enter Tryd.func4, Tryd.ntmps4
  go_upto_region 1 with fail
  rw [← HW1.out]
  clear HW1
  by_cases h60 : 60 < c.reqs.length
  · go_wp2_with fail
    go_ret
    exact ⟨rfl, HB.out⟩
  by_cases h300 : 300 < s.size
  · go_wp2_with fail
    go_ret
    exact ⟨rfl, HB.out⟩
  have HT1 := Lib.hid (clText_any c A ca w1 HC.out HR1.out (by omega) (HT.out.below HB.out) (HP.out.below HB.out))
  have p0 := HX.out.at.g0
  have p1 := HX.out.at.g1
  have p2 := HX.out.at.g2
  have p3 := HX.out.at.g3
  have p4 := HX.out.at.g4
  have p5 := HX.out.at.g5
  have p6 := HX.out.at.g6
  have p7 := HX.out.at.g7
  have p9 := HX.out.at.g9
  have pA := HX.out.at.gA
  go_upto_region 3 with fail
  go_wp2_with fail
  refine HT1.out.mono ?_
  rintro e w2 h
  obtain ⟨rfl, hb2⟩ := h
  have HX2 := Lib.hid (HX.out.below hb2)
  have HR2 := Lib.hid (HR1.out.below hb2)
  have HB2 := Lib.hid (HB.out.trans (hb2.mono HB.out.size))
  clear hb2 HT1 c8 p0 p1 p2 p3 p4 p5 p6 p7 p9 pA HX HR1 HB
  obtain ⟨TX, hTX⟩ : ∃ TX : ByteArray, (⟨(textOfC c).toArray⟩ : ByteArray) = TX := ⟨_, rfl⟩
  obtain ⟨ET, hET⟩ : ∃ x, errOfC c = x := ⟨_, rfl⟩
  have HT2 := Lib.hid (show Calls Tryd.prog 8 #[.agg (clCells c A ca)] w2 fun e w' => e = .returned (.tuple #[.string TX, .int .i64 ET]) ∧ Below w2.heap.size w2 w' from by
    rw [← hTX, ← hET]
    exact rText_any c A ca w2 HC.out HR2.out (by omega))
  rw [hTX, hET]
  clear hTX hET
  have c8 := HX2.out.at.g8
  have p0 := HX2.out.at.g0
  have p1 := HX2.out.at.g1
  have p2 := HX2.out.at.g2
  have p3 := HX2.out.at.g3
  have p4 := HX2.out.at.g4
  have p5 := HX2.out.at.g5
  have p6 := HX2.out.at.g6
  have p7 := HX2.out.at.g7
  have p9 := HX2.out.at.g9
  have pA := HX2.out.at.gA
  go_upto_region 4 with fail
  go_wp2_with fail
  refine HT2.out.mono ?_
  rintro e w3 ⟨rfl, hb3⟩
  have HB3 := Lib.hid (HB2.out.trans (hb3.mono HB2.out.size))
  clear hb3 HT2 c8 p0 p1 p2 p3 p4 p5 p6 p7 p9 pA HX2 HR2 HB2
  have HP1 := Lib.hid (clParse_any s w3 (by omega) (HT.out.below HB3.out) (HP.out.below HB3.out) (HL.out.below HB3.out))
  go_upto_region 5 with fail
  go_wp2_with fail
  refine HP1.out.mono ?_
  rintro e w4 h
  obtain ⟨a, D, cd, ea, rfl, hra, hb4, hpa⟩ := h
  have HPA := Lib.hid hpa
  obtain ⟨w5, hw5⟩ : ∃ y, y = w4.alloc (.cells (clCells a D cd) 29) := ⟨_, rfl⟩
  have e5 : Below w4.heap.size w4 w5 := by rw [hw5]; exact (Below.refl _ _).alloc (Nat.le_refl _) _
  have HX5 := Lib.hid (show ClBlk w5 w4.heap.size a D cd by rw [hw5]; exact ClBlk.new)
  have HR5 := Lib.hid (hra.below e5)
  have HB4 := Lib.hid (HB3.out.trans (hb4.mono HB3.out.size))
  have HB5 := Lib.hid (HB4.out.trans (e5.mono HB4.out.size))
  have HW5 := Lib.hid hw5
  clear hpa hra hb4 hw5 e5 HP1 HB3 HB4
  go_upto_region 6 with fail
  rw [← HW5.out]
  clear HW5
  generalize w4.heap.size = q9 at *
  have HP2 := Lib.hid (rparse_any s (by omega) w5)
  go_wp2_with fail
  refine HP2.out.mono ?_
  rintro e w6 h
  obtain ⟨b, E, ce, eb, rfl, hrb, hb6, hpb⟩ := h
  obtain ⟨rfl, rfl⟩ := parse_one HPA.out hpb
  obtain ⟨w7, hw7⟩ : ∃ y, y = w6.alloc (.cells (clCells b E ce) 29) := ⟨_, rfl⟩
  have e7 : Below w6.heap.size w6 w7 := by rw [hw7]; exact (Below.refl _ _).alloc (Nat.le_refl _) _
  have HX7 := Lib.hid (show ClBlk w7 w6.heap.size b E ce by rw [hw7]; exact ClBlk.new)
  have HR7 := Lib.hid (hrb.below e7)
  have HR8 := Lib.hid ((HR5.out.below hb6).below e7)
  have HX8 := Lib.hid ((HX5.out.below hb6).below e7)
  have HB6 := Lib.hid (HB5.out.trans (hb6.mono HB5.out.size))
  have HB7 := Lib.hid (HB6.out.trans (e7.mono HB6.out.size))
  have HW7 := Lib.hid hw7
  have hlb : b.reqs.length ≤ 9223372036854775807 := by
    rcases HPA.out with ⟨_, h1, h2, _⟩ | ⟨_, h, _⟩
    · have := reqs_few h1.op h2
      omega
    · rw [h]
      simp [zeroCl]
  have HSM := Lib.hid (rcallSame_any b b D E cd ce w7 HR8.out HR7.out hlb hlb)
  rw [(Cl.same_iff b b).2 rfl] at HSM
  clear hpb hrb hb6 hw7 e7 HP2 HB5 HX5 HR5 HB6 HPA
  go_upto_region 7 with fail
  rw [← HW7.out]
  clear HW7
  generalize w6.heap.size = q11 at *
  have c0 := HX8.out.at.g0
  have c1 := HX8.out.at.g1
  have c2 := HX8.out.at.g2
  have c3 := HX8.out.at.g3
  have c4 := HX8.out.at.g4
  have c5 := HX8.out.at.g5
  have c6 := HX8.out.at.g6
  have c7 := HX8.out.at.g7
  have c8 := HX8.out.at.g8
  have c9 := HX8.out.at.g9
  have cA := HX8.out.at.gA
  have d0 := HX7.out.at.g0
  have d1 := HX7.out.at.g1
  have d2 := HX7.out.at.g2
  have d3 := HX7.out.at.g3
  have d4 := HX7.out.at.g4
  have d5 := HX7.out.at.g5
  have d6 := HX7.out.at.g6
  have d7 := HX7.out.at.g7
  have d8 := HX7.out.at.g8
  have d9 := HX7.out.at.g9
  have dA := HX7.out.at.gA
  go_wp2_with fail
  refine HSM.out.mono ?_
  rintro e w8 ⟨rfl, hb8⟩
  have HB8 := Lib.hid (HB7.out.trans (hb8.mono HB7.out.size))
  clear hb8
  go_wp2_with fail
  go_ret
  exact ⟨rfl, HB8.out⟩

set_option maxRecDepth 100000 in
theorem callTexts_calls {H : Type} (enc : TypeId × Value → H) (W : World) (base : Nat) (args : Array Value) (ds : List (DataW H)) (p : List MemPlace)
    (hval : ∀ (j : Nat) t v, Tryd.f4.params[j]? = some t → args[j]? = some v → Value.okWide Tryd.prog W .any base t v)
    (hA : DataW.TrodAll enc Tryd.prog W 0 (fun _ => true) true Tryd.f4.params.toList args.toList ds p)
    (hsz : (DataW.weightsEach Tryd.prog (Tryd.f4.params.toList ++ Rows.callTextsSpec.plain.varTypes Tryd.prog) (ds ++ [])).all (· ≤ reachBytes) = true)
    (hL : laidMetH Tryd.prog Rows.callTextsRow.laid W)
    (hS : W.ShapedOpen Tryd.prog) :
    Calls Tryd.prog 4 args W fun e W' => e = .returned (.bool true) ∧ Below W.heap.size W W' ∧ (Rows.callTextsSpec.fn H (ds ++ [])) = { results := [.lit (.bool true)], args := ds } := by
  have hT : TextTabs W := textTabs_of (by kernel_rfl) hL (by repeat (first | exact List.mem_cons_self | apply List.mem_cons_of_mem)) (by repeat (first | exact List.mem_cons_self | apply List.mem_cons_of_mem))
  have hP : PowIs W := powIs_of (by kernel_rfl) hL (by repeat (first | exact List.mem_cons_self | apply List.mem_cons_of_mem))
  have hU : PrsTabs W := prsTabs_of (by kernel_rfl) hL hS (by repeat (first | exact List.mem_cons_self | apply List.mem_cons_of_mem)) (by repeat (first | exact List.mem_cons_self | apply List.mem_cons_of_mem)) (by repeat (first | exact List.mem_cons_self | apply List.mem_cons_of_mem))
  rw [Tryd.params4] at hA hval
  obtain ⟨v0, v1, d0, d1, p0, p1, rfl, rfl, rfl, h0, h1⟩ := trodAll_two hA
  obtain ⟨c, A, ca, rfl, hc, hR0, hl0, hl1⟩ := open_call (hval 0 29 v0 rfl rfl) h0
  obtain ⟨s, rfl, rfl, rfl, hs⟩ := open_string Tryd.underlying9 (hval 1 9 v1 rfl rfl) h1
  exact (callTexts_walk c A ca s W hc hR0 (by omega) (by unfold maxLen at hs; omega) hT hP hU).mono fun e W' h => ⟨h.1, h.2, rfl⟩
end Go.Proofs.YtgphigpbgiceiaaDoor
