/- What code.Parse asks of packages strings, strconv, unicode and bytealg is laid. -/
import Derived.Test.YtaanhkepimjelaaDoorCodeK
import Derived.Test.YtaanhkepimjelaaDoorLaid
import Derived.Lib.LaidTab
import Derived.LaidLaws
import Derived.Lib.LaidU8
import Derived.Shelf.Vars
namespace Go.Proofs.YtaanhkepimjelaaDoor
open Go.ChangeShapes Go.WideShapes Go.RowKit

set_option maxRecDepth 100000 in
theorem laid_error {W : World} {n : String} {l : List (String × DataW Unit)} {g : Nat} {name : String} {d : DataW Unit} (hp : (l.filter fun x => x.2.handleName?.isSome) = []) (hL : laidMetH Tryd.prog l W)
    (h : (n, DataW.iface name d) ∈ l) (hg : Tryd.prog.globalNamed n = some g) (ht : (Tryd.prog.globals[g]?).map (·.type) = some 67) : ∃ ev, W.cell? ⟨g, 0, none⟩ = some ev ∧ (ev = .nilIface ∨ ∃ te pe, ev = .iface te pe) := by
  obtain ⟨g', t', cs, fuel, p, hg', ht', hv, hd⟩ := laidH_mem hp hL h
  obtain rfl := Option.some.inj (hg.symm.trans hg')
  obtain rfl := Option.some.inj (ht.symm.trans ht')
  obtain ⟨_, u, v, hcs, _, _⟩ := iface_of_trod Tryd.underlying67 hd
  refine ⟨.iface u v, ?_, .inr ⟨u, v, rfl⟩⟩
  rw [World.var?_cell hg hv 0, ← Array.getElem?_toList, hcs]
  rfl
set_option maxRecDepth 100000 in
theorem parseTabs_of {W : World} {l : List (String × DataW Unit)} (hp : (l.filter fun x => x.2.handleName?.isSome) = []) (hL : laidMetH Tryd.prog l W) (hS : W.ShapedOpen Tryd.prog)
    (m1 : ("strconv.ErrRange", Rows.laid_strconv_ErrRange) ∈ l) (m2 : ("strconv.ErrSyntax", Rows.laid_strconv_ErrSyntax) ∈ l) (m3 : ("unicode.White_Space", Rows.laid_unicode_White_Space) ∈ l) (m4 : ("strings.asciiSpace", Rows.laid_strings_asciiSpace) ∈ l) : ParseTabs W where
  most := cell_of_shapedOpen_int (k := .i64) (zero := #[.int .i64 0]) (t := 3) hS (of_decide_eq_true (by kernel_rfl)) (by kernel_rfl) rfl (by kernel_rfl) (by kernel_rfl) Tryd.underlying3
  bad := laid_error hp hL m2 (by kernel_rfl) (by kernel_rfl)
  wide := laid_error hp hL m1 (by kernel_rfl) (by kernel_rfl)
  spaces := by
    obtain ⟨g', t', cs, fuel, p, hg', ht', hv, hd⟩ := laidH_mem hp hL m4
    have hg : Tryd.prog.globalNamed "strings.asciiSpace" = some 1 := by kernel_rfl
    have ht : (Tryd.prog.globals[1]?).map (·.type) = some 104 := by kernel_rfl
    obtain rfl := Option.some.inj (hg.symm.trans hg')
    obtain rfl := Option.some.inj (ht.symm.trans ht')
    have e : (Rows.laid_strings_asciiSpace : DataW Unit) = Lib.tabData .u8 Lib.asciiSpaceTab := by rfl
    rw [e] at hd
    unfold Lib.TabIs
    rw [hv, ← Lib.cells_of_tab Tryd.underlying104 Tryd.underlying5 (by kernel_rfl) (by kernel_rfl) hd]
  white := Go.Proofs.whiteTab_of_reads Tryd.lays199 ⟨by kernel_rfl, by kernel_rfl, by kernel_rfl, by kernel_rfl, by kernel_rfl, by kernel_rfl, by kernel_rfl, by kernel_rfl⟩ (laidH_mem hp hL m3)
end Go.Proofs.YtaanhkepimjelaaDoor
