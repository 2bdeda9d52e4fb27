/- What chapter 16's texts ask of laid variables is laid. -/
import Derived.Test.YtgphigpbgiceiaaGreatDoorClParK
import Derived.Test.YtgphigpbgiceiaaGreatDoorTrimOk
import Derived.Test.YtgphigpbgiceiaaGreatDoorCtRow
import Derived.Test.YtgphigpbgiceiaaGreatDoorLaid
import Derived.Test.YtgphigpbgiceiaaGreatDoorPk22
import Derived.Lib.LaidTab
import Derived.LaidLaws
import Derived.SizedLaws
import Derived.Shelf.Vars
namespace Go.Proofs.YtgphigpbgiceiaaGreatDoor
open Go.ChangeShapes Go.WideShapes Go.RowKit

set_option maxRecDepth 100000 in
theorem laid_error16 {W : World} {n : String} {l : List (String × DataW Unit)} {g : Nat} {name : String} {d : DataW Unit} (hp : (l.filter fun x => x.2.handleName?.isSome) = []) (hL : laidMetH Tryz.prog l W)
    (h : (n, DataW.iface name d) ∈ l) (hg : Tryz.prog.globalNamed n = some g) (ht : (Tryz.prog.globals[g]?).map (·.type) = some 61) : ∃ ev, W.cell? ⟨g, 0, none⟩ = some ev ∧ (ev = .nilIface ∨ ∃ te pe, ev = .iface te pe) := by
  obtain ⟨g', t', cs, fuel, p, hg', ht', hv, hd⟩ := laidH_mem hp hL h
  obtain rfl := Option.some.inj (hg.symm.trans hg')
  obtain rfl := Option.some.inj (ht.symm.trans ht')
  obtain ⟨_, u, v, hcs, _, _⟩ := iface_of_trod Tryz.underlying61 hd
  refine ⟨.iface u v, ?_, .inr ⟨u, v, rfl⟩⟩
  rw [World.var?_cell hg hv 0, ← Array.getElem?_toList, hcs]
  rfl
def clWordsB : List ByteArray := clWords.map fun s => ⟨s.toArray⟩
def clRedsB : List ByteArray := clReds.map fun s => ⟨s.toArray⟩
set_option maxRecDepth 100000 in
theorem textTabs_of {W : World} {l : List (String × DataW Unit)} (hp : (l.filter fun x => x.2.handleName?.isSome) = []) (hL : laidMetH Tryz.prog l W)
    (m1 : ("dispatcher/call.words", Rows.laid_dispatcher_call_words) ∈ l) (m2 : ("dispatcher/call.reds", Rows.laid_dispatcher_call_reds) ∈ l) : TextTabs W where
  words := fun j hj => by
    have h := laid_strings (g := 0) (t := 50) (e := 9) clWordsB hp hL (n := "dispatcher/call.words") m1 (by kernel_rfl) (by kernel_rfl) (by kernel_rfl) (by kernel_rfl) (by kernel_rfl) j hj
    rw [h]
    unfold clWordsB
    rw [List.getD_eq_getElem?_getD, List.getD_eq_getElem?_getD, List.getElem?_map, List.getElem?_eq_getElem (show j < clWords.length from hj)]
    rfl
  reds := fun j hj => by
    have h := laid_strings (g := 1) (t := 53) (e := 9) clRedsB hp hL (n := "dispatcher/call.reds") m2 (by kernel_rfl) (by kernel_rfl) (by kernel_rfl) (by kernel_rfl) (by kernel_rfl) j hj
    rw [h]
    unfold clRedsB
    rw [List.getD_eq_getElem?_getD, List.getD_eq_getElem?_getD, List.getElem?_map, List.getElem?_eq_getElem (show j < clReds.length from hj)]
    rfl
set_option maxRecDepth 100000 in
theorem powIs_of {W : World} {l : List (String × DataW Unit)} (hp : (l.filter fun x => x.2.handleName?.isSome) = []) (hL : laidMetH Tryz.prog l W)
    (h2 : ("internal/strconv.uint64pow10", Rows.laid_internal_strconv_uint64pow10) ∈ l) : PowIs W := by
  obtain ⟨g', t', cs, fuel, p, hg', ht', hv, hd⟩ := laidH_mem hp hL h2
  have hg : Tryz.prog.globalNamed "internal/strconv.uint64pow10" = some 8 := by kernel_rfl
  have ht : (Tryz.prog.globals[8]?).map (·.type) = some 153 := by kernel_rfl
  obtain rfl := Option.some.inj (hg.symm.trans hg')
  obtain rfl := Option.some.inj (ht.symm.trans ht')
  have e : (Rows.laid_internal_strconv_uint64pow10 : DataW Unit) = Lib.tabData .u64 Lib.pow10Tab := by rfl
  rw [e] at hd
  unfold PowIs Lib.TabIs
  rw [hv, ← Lib.cells_of_tab Tryz.underlying153 Tryz.underlying100 (by kernel_rfl) (by kernel_rfl) hd]
set_option maxRecDepth 100000 in
theorem prsTabs_of {W : World} {l : List (String × DataW Unit)} (hp : (l.filter fun x => x.2.handleName?.isSome) = []) (hL : laidMetH Tryz.prog l W) (hS : W.ShapedOpen Tryz.prog)
    (m1 : ("strconv.ErrRange", Rows.laid_strconv_ErrRange) ∈ l) (m2 : ("strconv.ErrSyntax", Rows.laid_strconv_ErrSyntax) ∈ l) (m3 : ("dispatcher/tree.calls", Rows.laid_dispatcher_tree_calls) ∈ l) : PrsTabs W where
  most := cell_of_shapedOpen_int (k := .i64) (zero := #[.int .i64 0]) (t := 3) hS (of_decide_eq_true (by kernel_rfl)) (by kernel_rfl) rfl (by kernel_rfl) (by kernel_rfl) Tryz.underlying3
  bad := laid_error16 hp hL m2 (by kernel_rfl) (by kernel_rfl)
  wide := laid_error16 hp hL m1 (by kernel_rfl) (by kernel_rfl)
  calls := laid_strings (g := 2) (t := 50) (e := 9) callWords hp hL (n := "dispatcher/tree.calls") m3 (by kernel_rfl) (by kernel_rfl) (by kernel_rfl) (by kernel_rfl) (by kernel_rfl)
end Go.Proofs.YtgphigpbgiceiaaGreatDoor
