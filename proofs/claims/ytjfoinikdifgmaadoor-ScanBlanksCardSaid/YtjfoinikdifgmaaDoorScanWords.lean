/- The law ScanWords: its walk, and what its row asks. -/
import Derived.Test.YtjfoinikdifgmaaDoorScan4
import Derived.Test.YtjfoinikdifgmaaDoorLaid
import Derived.Test.YtjfoinikdifgmaaDoorRow
namespace Go.Proofs.YtjfoinikdifgmaaDoor
open Go.ChangeShapes Go.WideShapes Go.ChangeAt Go.RowKit
open Go.ChangeMaps (open_string shut_string)

set_option maxHeartbeats 2000000 in
set_option maxRecDepth 100000 in
theorem scanWords_walk (s : ByteArray) (w : World) (hs : s.size ≤ 9223372036854775807) (hT : ScanTabs w) :
    Calls Tryd.prog 4 #[.string s] w fun e w' => e = .returned (.bool true) ∧ Below w.heap.size w w' := by
  have c1 := word_any s w hT
  have c2 := rword_any s w
  have c3 : ∀ w', Below w.heap.size w w' → Calls Tryd.prog 16 #[.string s] w' fun e w'' => e = .returned (.bool (isSign s)) ∧ w'' = w' := fun w' hb => sign_any s w' (hT.below hb)
  have c4 := fun w => rsign_any s w
  have c5 : ∀ w', Below w.heap.size w w' → Calls Tryd.prog 18 #[.string s] w' fun e w'' => e = .returned (.bool (isName s)) ∧ Below w'.heap.size w' w'' := fun w' hb => name_any s w' (hT.below hb) hs
  have c6 := fun w => rname_any s w hs
  generalize isWord s = a at *
  generalize isSign s = b at *
  generalize isName s = c at *
  have C1 := Lib.hid c1
  have C2 := Lib.hid c2
  have C3 := Lib.hid c3
  have C4 := Lib.hid c4
  have C5 := Lib.hid c5
  have C6 := Lib.hid c6
  clear c1 c2 c3 c4 c5 c6 hT
  by_cases hl : 100 < s.size
  · go_enter Tryd.func4, Tryd.ntmps4
    go_wp2
    go_ret
    exact ⟨rfl, Below.refl _ _⟩
  · go_enter Tryd.func4, Tryd.ntmps4
    go_wp2_with fail
    refine C1.out.mono ?_
    rintro e w' ⟨rfl, rfl⟩
    go_wp2_with fail
    refine C2.out.mono ?_
    rintro e w1 ⟨rfl, hb⟩
    have HB := Lib.hid hb
    clear hb
    go_wp2_with fail
    refine (C3.out _ HB.out).mono ?_
    rintro e w' ⟨rfl, rfl⟩
    go_wp2_with fail
    refine (C4.out _).mono ?_
    rintro e w' ⟨rfl, rfl⟩
    go_wp2_with fail
    refine (C5.out _ HB.out).mono ?_
    rintro e w2 ⟨rfl, hb⟩
    have HB2 := Lib.hid (HB.out.trans (hb.mono HB.out.size))
    clear hb
    go_wp2_with fail
    refine (C6.out _).mono ?_
    rintro e w3 ⟨rfl, hb⟩
    have HB3 := Lib.hid (HB2.out.trans (hb.mono HB2.out.size))
    clear hb
    go_wp2_with fail
    go_ret
    exact ⟨ret_bool (by simp), HB3.out⟩

set_option maxRecDepth 100000 in
theorem scanTabs_of {W : World} {l : List (String × DataW Unit)} (hp : (l.filter fun x => x.2.handleName?.isSome) = []) (hL : laidMetH Tryd.prog l W)
    (h1 : ("dispatcher/scan.words", Rows.laid_dispatcher_scan_words) ∈ l) (h2 : ("dispatcher/scan.signs", Rows.laid_dispatcher_scan_signs) ∈ l) : ScanTabs W where
  words := laid_strings (g := 2) (t := 48) (e := 9) scanWords hp hL (n := "dispatcher/scan.words") h1 (by kernel_rfl) (by kernel_rfl) (by kernel_rfl) (by kernel_rfl) (by kernel_rfl)
  signs := laid_strings (g := 3) (t := 50) (e := 9) scanSigns hp hL (n := "dispatcher/scan.signs") h2 (by kernel_rfl) (by kernel_rfl) (by kernel_rfl) (by kernel_rfl) (by kernel_rfl)
  row := laid_row (g := 3) (t := 50) (e := 9) scanSigns hp hL (n := "dispatcher/scan.signs") h2 (by kernel_rfl) (by kernel_rfl) (by kernel_rfl) (by kernel_rfl) (by kernel_rfl) (by kernel_rfl)

set_option maxRecDepth 100000 in
theorem scanWords_calls {H : Type} (enc : TypeId × Value → H) (W : World) (base : Nat) (args : Array Value) (ds : List (DataW H)) (p : List MemPlace)
    (hval : ∀ (j : Nat) t v, Tryd.f4.params[j]? = some t → args[j]? = some v → Value.okWide Tryd.prog W .any base t v)
    (hA : DataW.TrodAll enc Tryd.prog W 0 (fun _ => true) true Tryd.f4.params.toList args.toList ds p)
    (hsz : (DataW.weightsEach Tryd.prog (Tryd.f4.params.toList ++ Rows.scanWordsSpec.plain.varTypes Tryd.prog) (ds ++ [])).all (· ≤ reachBytes) = true)
    (hL : laidMetH Tryd.prog Rows.scanWordsRow.laid W) :
    Calls Tryd.prog 4 args W fun e W' => e = .returned (.bool true) ∧ Below W.heap.size W W' ∧ (Rows.scanWordsSpec.fn H (ds ++ [])) = { results := [.lit (.bool true)], args := ds } := by
  have hT : ScanTabs W := scanTabs_of (by kernel_rfl) hL List.mem_cons_self (List.mem_cons_of_mem _ List.mem_cons_self)
  rw [Tryd.params4] at hA hval
  obtain ⟨v0, d0, rfl, rfl, h0⟩ := trodAll_one hA
  obtain ⟨s, rfl, rfl, rfl, hs⟩ := open_string Tryd.underlying9 (hval 0 9 v0 rfl rfl) h0
  exact (scanWords_walk s W hs hT).mono fun e W' h => ⟨h.1, h.2, rfl⟩
end Go.Proofs.YtjfoinikdifgmaaDoor
