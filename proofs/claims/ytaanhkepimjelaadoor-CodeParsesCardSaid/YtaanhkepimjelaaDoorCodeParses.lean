/- The law CodeParses: its walk, and what its row asks. -/
import Derived.Test.YtaanhkepimjelaaDoorCodeZ
import Derived.Test.YtaanhkepimjelaaDoorCodeL
import Derived.Test.YtaanhkepimjelaaDoorCodeF
import Derived.Test.YtaanhkepimjelaaDoorCodeO
import Derived.Test.YtaanhkepimjelaaDoorCodeTabs
import Derived.Test.YtaanhkepimjelaaDoorRow
import Derived.Test.YtaanhkepimjelaaDoorParseTabs
namespace Go.Proofs.YtaanhkepimjelaaDoor
open Go.ChangeShapes Go.WideShapes Go.ChangeAt Go.RowKit Go.Sort
open Go.ChangeMaps (open_string shut_string)
set_option linter.unusedVariables false
set_option linter.unusedSimpArgs false

theorem pOf_one {s : ByteArray} {q q' : Cp} {f f' : Int} (h : POf s q f) (h' : POf s q' f') (h1 : ∀ i ∈ q.code, i.Ok) (h2 : ∀ n ∈ q.arrays, -9223372036854775808 ≤ n ∧ n ≤ 9223372036854775807) (h3 : ∀ i ∈ q'.code, i.Ok) (h4 : ∀ n ∈ q'.arrays, -9223372036854775808 ≤ n ∧ n ≤ 9223372036854775807) : q = q' ∧ f = f' := by
  rcases h with ⟨a1, a2, rfl⟩ | ⟨a1, rfl, rfl⟩
  · rcases h' with ⟨b1, b2, rfl⟩ | ⟨b1, _, _⟩
    · have e1 := read_may a1 h1 h2
      have e2 := read_may b1 h3 h4
      rw [← lines_of_text a2] at e1
      rw [← lines_of_text b2, e1] at e2
      exact ⟨e2, rfl⟩
    · exact absurd a2 (b1 q a1 h1 h2)
  · rcases h' with ⟨b1, b2, rfl⟩ | ⟨b1, rfl, rfl⟩
    · exact absurd b2 (a1 q' b1 h3 h4)
    · exact ⟨rfl, rfl⟩

set_option maxHeartbeats 8000000 in
set_option maxRecDepth 100000 in
theorem codeParses_walk (s : ByteArray) (w : World) (hs : s.size ≤ 9223372036854775807) (hT : CodeTabs w) (hU : ParseTabs w) :
    Calls Tryd.prog 7 #[.string s] w fun e w' => e = .returned (.bool true) ∧ Below w.heap.size w w' := by
  have HT := Lib.hid hT
  have HU := Lib.hid hU
  clear hT hU
  go_enter Tryd.func7, Tryd.ntmps7
  by_cases h6 : 6000 < s.size
  · go_wp2_with fail
    go_ret
    exact ⟨rfl, Below.refl _ _⟩
  have HP1 := Lib.hid (parse_any s (by omega) w HU.out HT.out)
  go_wp2_with fail
  refine HP1.out.mono ?_
  rintro e w2 ⟨q, f, A, B, cA, cB, rfl, hJ, hpo, hb2⟩
  have HPO := Lib.hid hpo
  have hab : Below w2.heap.size w2 (w2.alloc (.cells #[.slice A q.code.length cA, .int .i64 q.vars, .slice B q.arrays.length cB] 25)) := (Below.refl _ _).alloc (Nat.le_refl _) _
  have hQ3 : PgAt (w2.alloc (.cells #[.slice A q.code.length cA, .int .i64 q.vars, .slice B q.arrays.length cB] 25)) w2.heap.size A q.code.length cA q.vars B q.arrays.length cB := PgAt.new
  have HJ3 := Lib.hid (hJ.below hab)
  have HB3 := Lib.hid (hb2.trans (hab.mono hb2.size))
  clear hab hpo hJ hb2 HP1
  go_upto_region 4 with fail
  generalize w2.alloc (.cells #[.slice A q.code.length cA, .int .i64 q.vars, .slice B q.arrays.length cB] 25) = w3 at *
  generalize w2.heap.size = Q3 at *
  have HQ3 := Lib.hid hQ3
  clear hQ3
  have HP2 := Lib.hid (rparse_any s (by omega) w3)
  go_wp2_with fail
  refine HP2.out.mono ?_
  rintro e w4 ⟨q2, f2, A2, B2, cA2, cB2, rfl, hJ2, hpo2, hb4⟩
  obtain ⟨rfl, rfl⟩ := pOf_one HPO.out hpo2 HJ3.out.ok HJ3.out.aok hJ2.ok hJ2.aok
  have hab : Below w4.heap.size w4 (w4.alloc (.cells #[.slice A2 q.code.length cA2, .int .i64 q.vars, .slice B2 q.arrays.length cB2] 25)) := (Below.refl _ _).alloc (Nat.le_refl _) _
  have hQ5 : PgAt (w4.alloc (.cells #[.slice A2 q.code.length cA2, .int .i64 q.vars, .slice B2 q.arrays.length cB2] 25)) w4.heap.size A2 q.code.length cA2 q.vars B2 q.arrays.length cB2 := PgAt.new
  have HJ5 := Lib.hid (hJ2.below hab)
  have HB4 := Lib.hid (HB3.out.trans (hb4.mono HB3.out.size))
  have HB5 := Lib.hid (HB4.out.trans (hab.mono HB4.out.size))
  have HQ5 := Lib.hid ((HQ3.out.below hb4).below hab)
  have HJ6 := Lib.hid ((HJ3.out.below hb4).below hab)
  clear hab hpo2 hJ2 hb4 HP2 HPO HQ3 HJ3 HB3
  go_upto_region 5 with fail
  generalize w4.alloc (.cells #[.slice A2 q.code.length cA2, .int .i64 q.vars, .slice B2 q.arrays.length cB2] 25) = w5 at *
  generalize w4.heap.size = Q5 at *
  have p0 := HQ5.out.g0
  have p1 := HQ5.out.g1
  have p2 := HQ5.out.g2
  have s0 := hQ5.g0
  have s1 := hQ5.g1
  have s2 := hQ5.g2
  clear hQ5
  go_wp2_with fail
  refine (rsame_any A B A2 B2 cA cB cA2 cB2 q q w5 HJ6.out HJ5.out).mono ?_
  rintro e w6 ⟨rfl, hb6⟩
  rw [(Cp.same_iff q q).2 rfl]
  have HB6 := Lib.hid (HB5.out.trans (hb6.mono HB5.out.size))
  clear hb6 p0 p1 p2 s0 s1 s2
  go_wp2_with fail
  go_ret
  exact ⟨rfl, HB6.out⟩

set_option maxRecDepth 100000 in
theorem codeParses_calls {H : Type} (enc : TypeId × Value → H) (W : World) (base : Nat) (args : Array Value) (ds : List (DataW H)) (p : List MemPlace)
    (hval : ∀ (j : Nat) t v, Tryd.f7.params[j]? = some t → args[j]? = some v → Value.okWide Tryd.prog W .any base t v)
    (hA : DataW.TrodAll enc Tryd.prog W 0 (fun _ => true) true Tryd.f7.params.toList args.toList ds p)
    (hsz : (DataW.weightsEach Tryd.prog (Tryd.f7.params.toList ++ Rows.codeParsesSpec.plain.varTypes Tryd.prog) (ds ++ [])).all (· ≤ reachBytes) = true)
    (hL : laidMetH Tryd.prog Rows.codeParsesRow.laid W)
    (hS : W.ShapedOpen Tryd.prog) :
    Calls Tryd.prog 7 args W fun e W' => e = .returned (.bool true) ∧ Below W.heap.size W W' ∧ (Rows.codeParsesSpec.fn H (ds ++ [])) = { results := [.lit (.bool true)], args := ds } := by
  have hT : CodeTabs W := codeTabs_of (by kernel_rfl) hL (by repeat (first | exact List.mem_cons_self | apply List.mem_cons_of_mem)) (by repeat (first | exact List.mem_cons_self | apply List.mem_cons_of_mem))
  have hU : ParseTabs W := parseTabs_of (by kernel_rfl) hL hS (by repeat (first | exact List.mem_cons_self | apply List.mem_cons_of_mem)) (by repeat (first | exact List.mem_cons_self | apply List.mem_cons_of_mem)) (by repeat (first | exact List.mem_cons_self | apply List.mem_cons_of_mem)) (by repeat (first | exact List.mem_cons_self | apply List.mem_cons_of_mem))
  rw [Tryd.params7] at hA hval
  obtain ⟨v0, d0, rfl, rfl, h0⟩ := trodAll_one hA
  obtain ⟨s, rfl, rfl, rfl, hs⟩ := open_string Tryd.underlying9 (hval 0 9 v0 rfl rfl) h0
  exact (codeParses_walk s W (by unfold maxLen at hs; omega) hT hU).mono fun e W' h => ⟨h.1, h.2, rfl⟩
end Go.Proofs.YtaanhkepimjelaaDoor
