/- The tables of strconv that are laid. -/
import Derived.Test.YtjfoinikdifgmaaDoorScan5
import Derived.Test.YtjfoinikdifgmaaDoorLaid
import Derived.Lib.LaidTab
import Derived.LaidLaws
namespace Go.Proofs.YtjfoinikdifgmaaDoor
open Go.ChangeShapes Go.WideShapes Go.RowKit

set_option maxRecDepth 100000 in
theorem strTabs_of {W : World} {l : List (String × DataW Unit)} (hp : (l.filter fun x => x.2.handleName?.isSome) = []) (hL : laidMetH Tryd.prog l W)
    (h1 : ("internal/strconv.uint64pow10", Rows.laid_internal_strconv_uint64pow10) ∈ l) (h2 : ("strconv.ErrRange", Rows.laid_strconv_ErrRange) ∈ l) : StrTabs W where
  pow := by
    obtain ⟨g', t', cs, fuel, p, hg', ht', hv, hd⟩ := laidH_mem hp hL h1
    have hg : Tryd.prog.globalNamed "internal/strconv.uint64pow10" = some 7 := by kernel_rfl
    have ht : (Tryd.prog.globals[7]?).map (·.type) = some 107 := by kernel_rfl
    obtain rfl := Option.some.inj (hg.symm.trans hg')
    obtain rfl := Option.some.inj (ht.symm.trans ht')
    have e : (Rows.laid_internal_strconv_uint64pow10 : DataW Unit) = Lib.tabData .u64 Lib.pow10Tab := by rfl
    rw [e] at hd
    unfold Lib.TabIs
    rw [hv, ← Lib.cells_of_tab Tryd.underlying107 Tryd.underlying86 (by kernel_rfl) (by kernel_rfl) hd]
  errR := by
    obtain ⟨g', t', cs, fuel, p, hg', ht', hv, hd⟩ := laidH_mem hp hL h2
    have hg : Tryd.prog.globalNamed "strconv.ErrRange" = some 6 := by kernel_rfl
    have ht : (Tryd.prog.globals[6]?).map (·.type) = some 66 := by kernel_rfl
    obtain rfl := Option.some.inj (hg.symm.trans hg')
    obtain rfl := Option.some.inj (ht.symm.trans ht')
    obtain ⟨f', u, v, hc, _⟩ := iface_of_trod Tryd.underlying66 hd
    refine ⟨u, v, ?_⟩
    rw [World.var?_cell hg hv 0]
    have := congrArg (fun l => l[0]?) hc
    simpa using this
end Go.Proofs.YtjfoinikdifgmaaDoor
