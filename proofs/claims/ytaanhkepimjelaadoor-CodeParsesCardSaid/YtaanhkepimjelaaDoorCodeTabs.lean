/- The tables of packages code and strconv that are laid. -/
import Derived.Test.YtaanhkepimjelaaDoorCodeT
import Derived.Test.YtaanhkepimjelaaDoorLaid
import Derived.Lib.LaidTab
import Derived.LaidLaws
namespace Go.Proofs.YtaanhkepimjelaaDoor
open Go.ChangeShapes Go.WideShapes Go.RowKit

set_option maxRecDepth 100000 in
theorem codeTabs_of {W : World} {l : List (String × DataW Unit)} (hp : (l.filter fun x => x.2.handleName?.isSome) = []) (hL : laidMetH Tryd.prog l W)
    (h1 : ("dispatcher/code.names", Rows.laid_dispatcher_code_names) ∈ l) (h2 : ("internal/strconv.uint64pow10", Rows.laid_internal_strconv_uint64pow10) ∈ l) : CodeTabs W where
  names := by
    have e : (Rows.laid_dispatcher_code_names : DataW Unit) = DataW.agg (opNames.map fun s => DataW.lit (.string s.data.toList)) := by rfl
    rw [e] at h1
    exact laid_strings opNames hp hL h1 (by kernel_rfl) (by kernel_rfl) Tryd.underlying72 Tryd.underlying9 (by kernel_rfl)
  pow := by
    obtain ⟨g', t', cs, fuel, p, hg', ht', hv, hd⟩ := laidH_mem hp hL h2
    have hg : Tryd.prog.globalNamed "internal/strconv.uint64pow10" = some 3 := by kernel_rfl
    have ht : (Tryd.prog.globals[3]?).map (·.type) = some 137 := by kernel_rfl
    obtain rfl := Option.some.inj (hg.symm.trans hg')
    obtain rfl := Option.some.inj (ht.symm.trans ht')
    have e : (Rows.laid_internal_strconv_uint64pow10 : DataW Unit) = Lib.tabData .u64 Lib.pow10Tab := by rfl
    rw [e] at hd
    unfold Lib.TabIs
    rw [hv, ← Lib.cells_of_tab Tryd.underlying137 Tryd.underlying111 (by kernel_rfl) (by kernel_rfl) hd]
end Go.Proofs.YtaanhkepimjelaaDoor
