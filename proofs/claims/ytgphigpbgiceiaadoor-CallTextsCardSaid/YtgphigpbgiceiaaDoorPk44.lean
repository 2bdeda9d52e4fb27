/- What chapter 16's texts ask of laid variables is laid. · From a law's walk to its row, whatever its arguments are: it returns true, and below the heap's old size nothing has turned. -/
import Derived.Test.YtgphigpbgiceiaaDoorClParK
import Derived.Test.YtgphigpbgiceiaaDoorTrimOk
import Derived.Test.YtgphigpbgiceiaaDoorCtRow
import Derived.Test.YtgphigpbgiceiaaDoorLaid
import Derived.Test.YtgphigpbgiceiaaDoorPk22
import Derived.Lib.LaidTab
import Derived.LaidLaws
import Derived.SizedLaws
import Derived.Shelf.Vars
import Derived.Test.YtgphigpbgiceiaaDoorRows
import Derived.ProofKit
import Derived.LaidMore
import Derived.ChangeOld
namespace Go.Proofs.YtgphigpbgiceiaaDoor
open Go.ChangeShapes Go.WideShapes Go.RowKit

set_option maxRecDepth 100000 in
theorem laid_error16 {W : World} {n : String} {l : List (String × DataW Unit)} {g : Nat} {name : String} {d : DataW Unit} (hp : (l.filter fun x => x.2.handleName?.isSome) = []) (hL : laidMetH Tryd.prog l W)
    (h : (n, DataW.iface name d) ∈ l) (hg : Tryd.prog.globalNamed n = some g) (ht : (Tryd.prog.globals[g]?).map (·.type) = some 64) : ∃ ev, W.cell? ⟨g, 0, none⟩ = some ev ∧ (ev = .nilIface ∨ ∃ te pe, ev = .iface te pe) := by
  obtain ⟨g', t', cs, fuel, p, hg', ht', hv, hd⟩ := laidH_mem hp hL h
  obtain rfl := Option.some.inj (hg.symm.trans hg')
  obtain rfl := Option.some.inj (ht.symm.trans ht')
  obtain ⟨_, u, v, hcs, _, _⟩ := iface_of_trod Tryd.underlying64 hd
  refine ⟨.iface u v, ?_, .inr ⟨u, v, rfl⟩⟩
  rw [World.var?_cell hg hv 0, ← Array.getElem?_toList, hcs]
  rfl
def clWordsB : List ByteArray := clWords.map fun s => ⟨s.toArray⟩
def clRedsB : List ByteArray := clReds.map fun s => ⟨s.toArray⟩
set_option maxRecDepth 100000 in
theorem textTabs_of {W : World} {l : List (String × DataW Unit)} (hp : (l.filter fun x => x.2.handleName?.isSome) = []) (hL : laidMetH Tryd.prog l W)
    (m1 : ("dispatcher/call.words", Rows.laid_dispatcher_call_words) ∈ l) (m2 : ("dispatcher/call.reds", Rows.laid_dispatcher_call_reds) ∈ l) : TextTabs W where
  words := fun j hj => by
    have h := laid_strings (g := 0) (t := 51) (e := 9) clWordsB hp hL (n := "dispatcher/call.words") m1 (by kernel_rfl) (by kernel_rfl) (by kernel_rfl) (by kernel_rfl) (by kernel_rfl) j hj
    rw [h]
    unfold clWordsB
    rw [List.getD_eq_getElem?_getD, List.getD_eq_getElem?_getD, List.getElem?_map, List.getElem?_eq_getElem (show j < clWords.length from hj)]
    rfl
  reds := fun j hj => by
    have h := laid_strings (g := 1) (t := 53) (e := 9) clRedsB hp hL (n := "dispatcher/call.reds") m2 (by kernel_rfl) (by kernel_rfl) (by kernel_rfl) (by kernel_rfl) (by kernel_rfl) j hj
    rw [h]
    unfold clRedsB
    rw [List.getD_eq_getElem?_getD, List.getD_eq_getElem?_getD, List.getElem?_map, List.getElem?_eq_getElem (show j < clReds.length from hj)]
    rfl
set_option maxRecDepth 100000 in
theorem powIs_of {W : World} {l : List (String × DataW Unit)} (hp : (l.filter fun x => x.2.handleName?.isSome) = []) (hL : laidMetH Tryd.prog l W)
    (h2 : ("internal/strconv.uint64pow10", Rows.laid_internal_strconv_uint64pow10) ∈ l) : PowIs W := by
  obtain ⟨g', t', cs, fuel, p, hg', ht', hv, hd⟩ := laidH_mem hp hL h2
  have hg : Tryd.prog.globalNamed "internal/strconv.uint64pow10" = some 8 := by kernel_rfl
  have ht : (Tryd.prog.globals[8]?).map (·.type) = some 140 := by kernel_rfl
  obtain rfl := Option.some.inj (hg.symm.trans hg')
  obtain rfl := Option.some.inj (ht.symm.trans ht')
  have e : (Rows.laid_internal_strconv_uint64pow10 : DataW Unit) = Lib.tabData .u64 Lib.pow10Tab := by rfl
  rw [e] at hd
  unfold PowIs Lib.TabIs
  rw [hv, ← Lib.cells_of_tab Tryd.underlying140 Tryd.underlying107 (by kernel_rfl) (by kernel_rfl) hd]
set_option maxRecDepth 100000 in
theorem prsTabs_of {W : World} {l : List (String × DataW Unit)} (hp : (l.filter fun x => x.2.handleName?.isSome) = []) (hL : laidMetH Tryd.prog l W) (hS : W.ShapedOpen Tryd.prog)
    (m1 : ("strconv.ErrRange", Rows.laid_strconv_ErrRange) ∈ l) (m2 : ("strconv.ErrSyntax", Rows.laid_strconv_ErrSyntax) ∈ l) (m3 : ("dispatcher/tree.calls", Rows.laid_dispatcher_tree_calls) ∈ l) : PrsTabs W where
  most := cell_of_shapedOpen_int (k := .i64) (zero := #[.int .i64 0]) (t := 3) hS (of_decide_eq_true (by kernel_rfl)) (by kernel_rfl) rfl (by kernel_rfl) (by kernel_rfl) Tryd.underlying3
  bad := laid_error16 hp hL m2 (by kernel_rfl) (by kernel_rfl)
  wide := laid_error16 hp hL m1 (by kernel_rfl) (by kernel_rfl)
  calls := laid_strings (g := 3) (t := 51) (e := 9) callWords hp hL (n := "dispatcher/tree.calls") m3 (by kernel_rfl) (by kernel_rfl) (by kernel_rfl) (by kernel_rfl) (by kernel_rfl)
end Go.Proofs.YtgphigpbgiceiaaDoor
namespace Go.Proofs.YtgphigpbgiceiaaDoor
open Go.ChangeShapes Go.WideShapes Go.RowKit

theorem own : ownKnob Tryd.prog.godebug = none := by kernel_rfl
theorem laidOut : laidOutB Tryd.prog = true := by kernel_rfl

theorem trodAll_below {H : Type} {enc : TypeId × Value → H} {P : Program} (hl : laidOutB P = true) {W W' : World} (hb : Below W.heap.size W W') :
    ∀ {ts : List TypeId} {vs : List Value} {ds : List (DataW H)} {ps : List MemPlace}, (ts.all fun t => P.readableRec t && decide (t < P.types.size)) = true → DataW.TrodAll enc P W 0 (fun _ => true) true ts vs ds ps →
      DataW.TrodAll enc P W' 0 (fun b => decide (b < W.heap.size)) true ts vs ds ps
  | [], [], [], _, _, h => h
  | t :: ts, v :: vs, d :: ds, ps, hr, h => by
    have hlt := h.lt
    obtain ⟨p, q, h1, h2, e⟩ := h
    simp only [List.all_cons, Bool.and_eq_true, decide_eq_true_eq] at hr
    exact ⟨p, q, Below.trod hl hr.1.1 hr.1.2 h1 hb (fun x hx => hlt x (by rw [e]; simp [hx])), trodAll_below hl hb (by simpa using hr.2) h2, e⟩
  | [], [], _ :: _, _, _, h => h.elim
  | [], _ :: _, _, _, _, h => by cases ‹List (DataW H)› <;> exact h.elim
  | _ :: _, [], _, _, _, h => by cases ‹List (DataW H)› <;> exact h.elim
  | _ :: _, _ :: _, [], _, _, h => h.elim

/-- What a law's post wants of a walk that ends in Below. -/
theorem law_post {H : Type} {enc : TypeId × Value → H} {f : Func} {s : ChangeSpec} {tb : TypeId} {W W' : World} {args : Array Value} {ds gs : List (DataW H)} {before : List MemPlace}
    (hv : s.vars = []) (hr : f.resultTypes = #[tb]) (ht : Tryd.prog.underlying tb = some .bool) (hp : (f.params.toList.all fun t => Tryd.prog.readableRec t && decide (t < Tryd.prog.types.size)) = true)
    (hfn : (s.fn H (ds ++ gs)) = { results := [.lit (.bool true)], args := ds })
    (hW : DataW.Whole enc Tryd.prog f.params.toList s.vars false W args.toList ds gs before) (hb : Below W.heap.size W W') :
    s.post enc Tryd.prog f false true false false W args (.bool true) W' := by
  have hW' := hW
  obtain ⟨p, q, hA, hV, rfl, _, _⟩ := hW
  refine ⟨ds, gs, _, [], p, [], hW', ?_, ?_, ?_, hb.frame _, fun h => by cases h⟩
  · rw [hfn, hr]
    exact trodAll_mk1 (shut_bool ht true)
  · rw [hfn]
    exact trodAll_below laidOut hb hp hA
  · rw [hv, hfn]
    rfl
end Go.Proofs.YtgphigpbgiceiaaDoor
