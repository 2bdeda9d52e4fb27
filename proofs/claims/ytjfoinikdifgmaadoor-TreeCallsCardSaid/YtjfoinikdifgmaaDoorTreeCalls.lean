/- For every word and kind TreeCalls returns true and leaves its arguments as they were; tied to the two tables that tree.go lays (tree.calls, tree.args). No condition beside what the row itself says. -/
import Derived.Test.YtjfoinikdifgmaaDoorTc1
import Derived.Test.YtjfoinikdifgmaaDoorTc2
import Derived.Test.YtjfoinikdifgmaaDoorLaid
import Derived.Test.YtjfoinikdifgmaaDoorCards
import Derived.Test.YtjfoinikdifgmaaDoorTie
import Derived.Test.YtjfoinikdifgmaaDoorRow
import Derived.SevenTiedAt
namespace Go.Proofs.YtjfoinikdifgmaaDoor
open Go.ChangeShapes Go.WideShapes Go.ChangeAt Go.RowKit
open Go.ChangeMaps (open_string shut_string)

theorem len_lit (s : ByteArray) : (s.toList.length : Int) = s.size := by simp [ByteArray.toList_eq]

set_option maxHeartbeats 1000000 in
set_option maxRecDepth 100000 in
theorem treeCalls_walk (s : ByteArray) (k : Int) (w : World) (hs : s.size ≤ 9223372036854775807) (h0 : 0 ≤ k) (h1 : k ≤ 255)
    (hc : ∀ j, j < 22 → w.cell? ⟨1, j, none⟩ = some (.string (callWords.getD j ByteArray.empty)))
    (ha : ∀ j, j < 22 → w.cell? ⟨0, j, none⟩ = some (.int .i64 (argsTab.getD j 0))) :
    Calls Tryd.prog 3 #[.string s, .int .u8 k] w fun e w' => e = .returned (.bool true) ∧ Below w.heap.size w w' := by
  have c1 := treeArgs_any k w h0 h1 ha
  have c2 := refArgs_any k w h0 h1
  have c3 := treeCall_any s w hc
  have c4 := refCall_any s w
  generalize argsLo k = a at *
  generalize argsHi k = b at *
  generalize callOf s = c at *
  have C1 := Lib.hid c1
  have C2 := Lib.hid c2
  have C3 := Lib.hid c3
  have C4 := Lib.hid c4
  clear c1 c2 c3 c4 hc ha
  by_cases hl : 30 < s.size
  · go_enter Tryd.func3, Tryd.ntmps3
    go_wp2
    go_ret
    exact ⟨rfl, Below.refl _ _⟩
  · go_enter Tryd.func3, Tryd.ntmps3
    go_wp2_with fail
    refine C1.out.mono ?_
    rintro e w' ⟨rfl, rfl⟩
    go_wp2_with fail
    refine C2.out.mono ?_
    rintro e w' ⟨rfl, rfl⟩
    go_wp2_with fail
    refine C3.out.mono ?_
    rintro e w' ⟨rfl, rfl⟩
    go_wp2_with fail
    refine C4.out.mono ?_
    rintro e w' ⟨rfl, hb⟩
    have HB := Lib.hid hb
    clear hb
    go_wp2
    go_ret
    exact ⟨rfl, HB.out⟩

set_option maxRecDepth 100000 in
theorem treeCalls_calls {H : Type} (enc : TypeId × Value → H) (W : World) (base : Nat) (args : Array Value) (ds : List (DataW H)) (p : List MemPlace)
    (hval : ∀ (j : Nat) t v, Tryd.f3.params[j]? = some t → args[j]? = some v → Value.okWide Tryd.prog W .any base t v)
    (hA : DataW.TrodAll enc Tryd.prog W 0 (fun _ => true) true Tryd.f3.params.toList args.toList ds p)
    (_ : (DataW.weightsEach Tryd.prog (Tryd.f3.params.toList ++ Rows.treeCallsSpec.plain.varTypes Tryd.prog) (ds ++ [])).all (· ≤ reachBytes) = true)
    (hL : laidMetH Tryd.prog Rows.treeCallsRow.laid W) :
    Calls Tryd.prog 3 args W fun e W' => e = .returned (.bool true) ∧ Below W.heap.size W W' ∧ (Rows.treeCallsSpec.fn H (ds ++ [])) = { results := [.lit (.bool true)], args := ds } := by
  have hc := laid_strings (g := 1) (t := 46) (e := 9) callWords (by kernel_rfl) hL (n := "dispatcher/tree.calls") (by exact List.mem_cons_self) (by kernel_rfl) (by kernel_rfl) (by kernel_rfl) (by kernel_rfl) (by kernel_rfl)
  have ha := laid_ints (g := 0) (t := 44) (e := 3) (k := .i64) argsTab (by kernel_rfl) hL (n := "dispatcher/tree.args") (by exact List.mem_cons_of_mem _ List.mem_cons_self) (by kernel_rfl) (by kernel_rfl) (by kernel_rfl) (by kernel_rfl) (by kernel_rfl)
  rw [Tryd.params3] at hA hval
  obtain ⟨v0, v1, d0, d1, p0, p1, rfl, rfl, rfl, h0, h1⟩ := trodAll_two hA
  obtain ⟨s, rfl, rfl, rfl, hs⟩ := open_string Tryd.underlying9 (hval 0 9 v0 rfl rfl) h0
  obtain ⟨k, rfl, rfl, rfl, wk⟩ := open_int Tryd.underlying5 (hval 1 5 v1 rfl rfl) h1
  have hk : 0 ≤ k ∧ k ≤ 255 := bounds_u8 wk
  exact (treeCalls_walk s k W hs hk.1 hk.2 hc ha).mono fun e W' h => ⟨h.1, h.2, rfl⟩

end Go.Proofs.YtjfoinikdifgmaaDoor
