/- Tables that are laid (arrays of strings, of whole numbers), read as lists: of any program. -/
import Derived.Test.YtgphigpbgiceiaaGreatDoorRows
import Derived.ProofKit
import Derived.OpenShut
import Derived.LaidMore
import Derived.LaidByTextLater
namespace Go.Proofs.YtgphigpbgiceiaaGreatDoor
open Go.ChangeShapes Go.WideShapes Go.RowKit

theorem laid_mem {P : Program} {w : World} {n : String} {d : DataW Unit} : ∀ {l : List (String × DataW Unit)} {ps : List MemPlace}, DataW.LaidVars P w l ps → (n, d) ∈ l →
    ∃ g t cs fuel p, P.globalNamed n = some g ∧ (P.globals[g]?).map (·.type) = some t ∧ w.var? P n = some cs ∧ DataW.trod (fun _ => ()) P w 0 (fun _ => true) false fuel t cs.toList = some (d, p)
  | [], _, _, h => by cases h
  | (n', d') :: r, ps, hl, h => by
    obtain ⟨g, t, cs, fuel, p, q, hg, ht, hv, hd, hr, _⟩ := hl
    rcases List.mem_cons.1 h with e | h
    · cases e
      exact ⟨g, t, cs, fuel, p, hg, ht, hv, hd⟩
    · exact laid_mem hr h

theorem laidH_mem {P : Program} {w : World} {n : String} {d : DataW Unit} {l : List (String × DataW Unit)} (hp : (l.filter fun x => x.2.handleName?.isSome) = []) (hl : laidMetH P l w) (h : (n, d) ∈ l) :
    ∃ g t cs fuel p, P.globalNamed n = some g ∧ (P.globals[g]?).map (·.type) = some t ∧ w.var? P n = some cs ∧ DataW.trod (fun _ => ()) P w 0 (fun _ => true) false fuel t cs.toList = some (d, p) := by
  have h' : laidMet P l w := by
    unfold laidMetH at hl
    rw [hp] at hl
    exact hl
  obtain ⟨ps, hv, _⟩ := h'
  exact laid_mem hv h

/-- A laid array of strings: its cells. -/
theorem laid_strings {P : Program} {w : World} {n : String} {l : List (String × DataW Unit)} {g t e : Nat} (tab : List ByteArray) (hp : (l.filter fun x => x.2.handleName?.isSome) = []) (hl : laidMetH P l w)
    (h : (n, DataW.agg (tab.map fun s => DataW.lit (.string s.data.toList))) ∈ l) (hg : P.globalNamed n = some g) (ht : (P.globals[g]?).map (·.type) = some t) (hu : P.underlying t = some (.array tab.length e)) (he : P.underlying e = some .string) (hc : P.cellsOf e = 1) :
    ∀ j, j < tab.length → w.cell? ⟨g, j, none⟩ = some (.string (tab.getD j ByteArray.empty)) := by
  obtain ⟨g', t', cs, fuel, p, hg', ht', hv, hd⟩ := laidH_mem hp hl h
  obtain rfl := Option.some.inj (hg.symm.trans hg')
  obtain rfl := Option.some.inj (ht.symm.trans ht')
  obtain ⟨xs, m, rfl, hx, hlen, hn, hel⟩ := DataW.trod_array hu hd
  intro j hj
  have h0 := hel j hj
  rw [hc, Nat.mul_one, List.getElem?_eq_getElem (by omega)] at h0
  obtain ⟨s, e1, e2, _⟩ := DataW.trod_string he h0
  simp only [Prod.mk.injEq, DataW.agg.injEq] at hx
  have hj2 := congrArg (fun l => l[j]?) hx.1
  simp only [List.getElem?_map, List.getElem?_eq_getElem hj, List.getElem?_eq_getElem (show j < xs.length by omega), Option.map_some, e2, Option.some.injEq, DataW.lit.injEq, Lit.string.injEq] at hj2
  have hs : tab[j] = s := ByteArray.ext (Array.toList_inj.mp hj2)
  rw [World.var?_cell hg hv j]
  have h1 : cs.toList[j]? = some (.string s) := by
    have := congrArg (fun l => l[0]?) e1
    simpa [List.getElem?_take, List.getElem?_drop] using this
  rw [List.getD_eq_getElem?_getD, List.getElem?_eq_getElem hj, Option.getD_some, hs]
  simpa using h1

/-- .. and the row that they are. -/
theorem laid_row {P : Program} {w : World} {n : String} {l : List (String × DataW Unit)} {g t e : Nat} (tab : List ByteArray) (hp : (l.filter fun x => x.2.handleName?.isSome) = []) (hl : laidMetH P l w)
    (h : (n, DataW.agg (tab.map fun s => DataW.lit (.string s.data.toList))) ∈ l) (hg : P.globalNamed n = some g) (ht : (P.globals[g]?).map (·.type) = some t) (hu : P.underlying t = some (.array tab.length e)) (he : P.underlying e = some .string) (hc : P.cellsOf e = 1) (hct : P.cellsOf t = tab.length) :
    ∃ t' fr, w.heap[g]? = some (.cells (tab.map Value.string).toArray t' fr) := by
  have hcell := laid_strings tab hp hl h hg ht hu he hc
  obtain ⟨g', t', cs, fuel, p, hg', ht', hv, hd⟩ := laidH_mem hp hl h
  obtain rfl := Option.some.inj (hg.symm.trans hg')
  obtain rfl := Option.some.inj (ht.symm.trans ht')
  obtain ⟨xs, m, rfl, hx, hlen, hn, hel⟩ := DataW.trod_array hu hd
  rw [hct] at hlen
  have hcs : cs = (tab.map Value.string).toArray := by
    apply Array.ext'
    apply List.ext_getElem
    · simpa using hlen
    · intro j h1 h2
      have h3 := hcell j (by omega)
      rw [World.var?_cell hg hv j] at h3
      have h4 : j < tab.length := by omega
      rw [List.getD_eq_getElem?_getD, List.getElem?_eq_getElem h4, Option.getD_some] at h3
      have h5 : cs.toList[j]? = some (Value.string tab[j]) := by simpa using h3
      rw [List.getElem?_eq_getElem h1] at h5
      have h6 := Option.some.inj h5
      simpa using h6
  subst hcs
  unfold World.var? at hv
  rw [hg] at hv
  simp only [Option.bind_some] at hv
  cases hh : w.heap[g]? with
  | none => rw [hh] at hv; cases hv
  | some o =>
    rw [hh] at hv
    cases o with
    | cells c t' fr =>
      simp only [Option.some.injEq] at hv
      exact ⟨t', fr, by rw [hv]⟩
    | _ => cases hv

/-- A laid array of whole numbers: its cells. -/
theorem laid_ints {P : Program} {w : World} {n : String} {l : List (String × DataW Unit)} {g t e : Nat} {k : IntKind} (tab : List Int) (hp : (l.filter fun x => x.2.handleName?.isSome) = []) (hl : laidMetH P l w)
    (h : (n, DataW.agg (tab.map fun s => DataW.lit (.int k s))) ∈ l) (hg : P.globalNamed n = some g) (ht : (P.globals[g]?).map (·.type) = some t) (hu : P.underlying t = some (.array tab.length e)) (he : P.underlying e = some (.int k)) (hc : P.cellsOf e = 1) :
    ∀ j, j < tab.length → w.cell? ⟨g, j, none⟩ = some (.int k (tab.getD j 0)) := by
  obtain ⟨g', t', cs, fuel, p, hg', ht', hv, hd⟩ := laidH_mem hp hl h
  obtain rfl := Option.some.inj (hg.symm.trans hg')
  obtain rfl := Option.some.inj (ht.symm.trans ht')
  obtain ⟨xs, m, rfl, hx, hlen, hn, hel⟩ := DataW.trod_array hu hd
  intro j hj
  have h0 := hel j hj
  rw [hc, Nat.mul_one, List.getElem?_eq_getElem (by omega)] at h0
  obtain ⟨s, e1, e2, _⟩ := DataW.trod_int he h0
  simp only [Prod.mk.injEq, DataW.agg.injEq] at hx
  have hj2 := congrArg (fun l => l[j]?) hx.1
  simp only [List.getElem?_map, List.getElem?_eq_getElem hj, List.getElem?_eq_getElem (show j < xs.length by omega), Option.map_some, e2, Option.some.injEq, DataW.lit.injEq, Lit.int.injEq, true_and] at hj2
  rw [World.var?_cell hg hv j]
  have h1 : cs.toList[j]? = some (.int k s) := by
    have := congrArg (fun l => l[0]?) e1
    simpa [List.getElem?_take, List.getElem?_drop] using this
  rw [List.getD_eq_getElem?_getD, List.getElem?_eq_getElem hj, Option.getD_some, hj2]
  simpa using h1
end Go.Proofs.YtgphigpbgiceiaaGreatDoor
