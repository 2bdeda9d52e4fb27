/- The law CallTold: its walk, and what its row asks. -/
import Derived.Test.YtgphigpbgiceiaaDoorCtRef
import Derived.Test.YtgphigpbgiceiaaDoorCtOpen
import Derived.Test.YtgphigpbgiceiaaDoorRow
import Derived.Test.YtgphigpbgiceiaaDoorLaid
import Derived.Lib.QuietBelow
import Derived.Lib.LaidTab
import Derived.LaidLaws
namespace Go.Proofs.YtgphigpbgiceiaaDoor
open Go.ChangeShapes Go.WideShapes Go.ChangeAt Go.RowKit Go.Sort
set_option linter.unusedVariables false
set_option linter.unusedSimpArgs false

set_option maxRecDepth 100000 in
theorem ctTabs_of {W : World} {l : List (String × DataW Unit)} (hp : (l.filter fun x => x.2.handleName?.isSome) = []) (hL : laidMetH Tryd.prog l W)
    (h1 : ("strings.asciiSpace", Rows.laid_strings_asciiSpace) ∈ l) (h2 : ("internal/strconv.uint64pow10", Rows.laid_internal_strconv_uint64pow10) ∈ l) : CtTabs W where
  pow := by
    obtain ⟨g', t', cs, fuel, p, hg', ht', hv, hd⟩ := laidH_mem hp hL h2
    have hg : Tryd.prog.globalNamed "internal/strconv.uint64pow10" = some 8 := by kernel_rfl
    have ht : (Tryd.prog.globals[8]?).map (·.type) = some 140 := by kernel_rfl
    obtain rfl := Option.some.inj (hg.symm.trans hg')
    obtain rfl := Option.some.inj (ht.symm.trans ht')
    have e : (Rows.laid_internal_strconv_uint64pow10 : DataW Unit) = Lib.tabData .u64 Lib.pow10Tab := by rfl
    rw [e] at hd
    unfold Lib.TabIs
    rw [hv, ← Lib.cells_of_tab Tryd.underlying140 Tryd.underlying107 (by kernel_rfl) (by kernel_rfl) hd]
  spaces := by
    obtain ⟨g', t', cs, fuel, p, hg', ht', hv, hd⟩ := laidH_mem hp hL h1
    have hg : Tryd.prog.globalNamed "strings.asciiSpace" = some 2 := by kernel_rfl
    have ht : (Tryd.prog.globals[2]?).map (·.type) = some 82 := by kernel_rfl
    obtain rfl := Option.some.inj (hg.symm.trans hg')
    obtain rfl := Option.some.inj (ht.symm.trans ht')
    have e : (Rows.laid_strings_asciiSpace : DataW Unit) = Lib.tabData .u8 Lib.asciiSpaceTab := by rfl
    rw [e] at hd
    unfold Lib.TabIs
    rw [hv, ← Lib.cells_of_tab Tryd.underlying82 Tryd.underlying5 (by kernel_rfl) (by kernel_rfl) hd]

set_option maxHeartbeats 8000000 in
set_option maxRecDepth 100000 in
theorem callTold_walk (k : Int) (hk0 : 0 ≤ k) (hk1 : k ≤ 255) (flag : Bool) (v p t r i c : Int) (hv : In64 v) (hp : In64 p) (ht : In64 t) (hr : In64 r) (hi : In64 i) (hc : In64 c) (l : List Int) (A : Option Addr) (cap : Nat) (w : World) (hR : IntRow w A l) (hl : l.length ≤ 9223372036854775807) (hn : ∀ n ∈ l, In64 n) (hT : CtTabs w) :
    Calls Tryd.prog 3 #[.int .u8 k, .agg #[.bool flag, .int .i64 v, .int .i64 p, .int .i64 t, .int .i64 r, .int .i64 i, .int .i64 c, .slice A l.length cap]] w fun e w' => e = .returned (.bool true) ∧ Below w.heap.size w w' := by
  have hb1 : Below w.heap.size w (w.alloc (.cells #[.bool flag, .int .i64 v, .int .i64 p, .int .i64 t, .int .i64 r, .int .i64 i, .int .i64 c, .slice A l.length cap] 24)) := (Below.refl _ _).alloc (Nat.le_refl _) _
  have hX1 : ResAt (w.alloc (.cells #[.bool flag, .int .i64 v, .int .i64 p, .int .i64 t, .int .i64 r, .int .i64 i, .int .i64 c, .slice A l.length cap] 24)) w.heap.size flag v p t r i c (.slice A l.length cap) := ResAt.new
  have HR := Lib.hid (hR.below hb1)
  have HT := Lib.hid (hT.below hb1)
  have HB := Lib.hid hb1
  have HX := Lib.hid hX1
  have HH := Lib.hid (And.intro hv (And.intro hp (And.intro ht (And.intro hr (And.intro hi hc)))))
  have HN := Lib.hid hn
  clear hR hT hb1 hX1 hv hp ht hr hi hc hn
  go_enter Tryd.func3, Tryd.ntmps3
  go_upto_region 1 with fail
  generalize hw1 : w.alloc (.cells #[.bool flag, .int .i64 v, .int .i64 p, .int .i64 t, .int .i64 r, .int .i64 i, .int .i64 c, .slice A l.length cap] 24) = w1 at *
  generalize hbx : w.heap.size = bx at *
  have g7 := HX.out.g7
  have k0 := fun d os => cell_regrown HX.out.g0 d os
  have k1 := fun d os => cell_regrown HX.out.g1 d os
  have k2 := fun d os => cell_regrown HX.out.g2 d os
  have k3 := fun d os => cell_regrown HX.out.g3 d os
  have k4 := fun d os => cell_regrown HX.out.g4 d os
  have k5 := fun d os => cell_regrown HX.out.g5 d os
  have k6 := fun d os => cell_regrown HX.out.g6 d os
  have k7 := fun d os => cell_regrown HX.out.g7 d os
  by_cases h100 : 100 < l.length
  · have hd : decide ((100 : Int) < (l.length : Int)) = true := by simp; omega
    refine wp_region_quiet_below (by kernel_rfl) (by kernel_rfl) ?_
    repeat (quiet_step (fail))
    refine wpQuiet_nil ?_
    intro _ hw'
    obtain ⟨⟨dq, osq⟩, hw''⟩ := hw'
    subst hw''
    have HB9 := Lib.hid (HB.out.trans ((below_regrown w1 dq osq).mono (hbx ▸ HB.out.size)))
    generalize grow (redrawn w1 dq) osq = w9 at *
    go_wp2_with fail
    go_ret
    exact ⟨rfl, hbx ▸ HB9.out⟩
  · have hd : decide ((100 : Int) < (l.length : Int)) = false := by simp; omega
    obtain ⟨S, hS⟩ : ∃ S : ByteArray, (⟨(toldF k flag v p t r i c l).toArray⟩ : ByteArray) = S := ⟨_, rfl⟩
    have HC1 := Lib.hid (fun w' (h : Below w1.heap.size w1 w') => hS ▸ told16_any k hk0 hk1 flag v p t r i c HH.out.1 HH.out.2.1 HH.out.2.2.1 HH.out.2.2.2.1 HH.out.2.2.2.2.1 HH.out.2.2.2.2.2 l A cap w' (HR.out.below h) (by omega) HN.out (HT.out.below h))
    have HC2 := Lib.hid (fun w' (h : Below w1.heap.size w1 w') => hS ▸ rtold16_any k hk0 hk1 flag v p t r i c HH.out.1 HH.out.2.1 HH.out.2.2.1 HH.out.2.2.2.1 HH.out.2.2.2.2.1 HH.out.2.2.2.2.2 l A cap w' (HR.out.below h) (by omega) HN.out)
    clear hS
    refine wp_region_quiet_below (by kernel_rfl) (by kernel_rfl) ?_
    repeat (quiet_step (first | (with_reducible exact Calls.regrown_of (HC1.out _ (below_regrown _ _ _))) | (with_reducible exact Calls.regrown_of (HC2.out _ (below_regrown _ _ _)))))
    refine wpQuiet_nil ?_
    intro _ hw'
    obtain ⟨⟨dq, osq⟩, hw''⟩ := hw'
    subst hw''
    have HB9 := Lib.hid (HB.out.trans ((below_regrown w1 dq osq).mono (hbx ▸ HB.out.size)))
    generalize grow (redrawn w1 dq) osq = w9 at *
    go_wp2_with fail
    go_ret
    exact ⟨ret_bool (by simp), hbx ▸ HB9.out⟩

set_option maxRecDepth 100000 in
theorem callTold_calls {H : Type} (enc : TypeId × Value → H) (W : World) (base : Nat) (args : Array Value) (ds : List (DataW H)) (p : List MemPlace)
    (hval : ∀ (j : Nat) t v, Tryd.f3.params[j]? = some t → args[j]? = some v → Value.okWide Tryd.prog W .any base t v)
    (hA : DataW.TrodAll enc Tryd.prog W 0 (fun _ => true) true Tryd.f3.params.toList args.toList ds p)
    (hsz : (DataW.weightsEach Tryd.prog (Tryd.f3.params.toList ++ Rows.callToldSpec.plain.varTypes Tryd.prog) (ds ++ [])).all (· ≤ reachBytes) = true)
    (hL : laidMetH Tryd.prog Rows.callToldRow.laid W) :
    Calls Tryd.prog 3 args W fun e W' => e = .returned (.bool true) ∧ Below W.heap.size W W' ∧ (Rows.callToldSpec.fn H (ds ++ [])) = { results := [.lit (.bool true)], args := ds } := by
  have hT : CtTabs W := ctTabs_of (by kernel_rfl) hL (by repeat (first | exact List.mem_cons_self | apply List.mem_cons_of_mem)) (by repeat (first | exact List.mem_cons_self | apply List.mem_cons_of_mem))
  rw [Tryd.params3] at hA hval
  obtain ⟨v0, v1, d0, d1, p0, p1, rfl, rfl, rfl, h0, h1⟩ := trodAll_two hA
  obtain ⟨k, rfl, rfl, rfl, wk⟩ := open_int Tryd.underlying5 (hval 0 5 v0 rfl rfl) h0
  obtain ⟨flag, x1, x2, x3, x4, x5, x6, A, cap, l, rfl, i1, i2, i3, i4, i5, i6, hR, hok, hl⟩ := open_res (hval 1 24 v1 rfl rfl) h1
  exact (callTold_walk k (bounds_u8 wk).1 (bounds_u8 wk).2 flag x1 x2 x3 x4 x5 x6 i1 i2 i3 i4 i5 i6 l A cap W hR hl hok hT).mono fun e W' h => ⟨h.1, h.2, rfl⟩
end Go.Proofs.YtgphigpbgiceiaaDoor
