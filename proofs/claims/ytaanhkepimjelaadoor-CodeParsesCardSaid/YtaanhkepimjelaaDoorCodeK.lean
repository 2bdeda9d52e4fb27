/- What the library's functions tell code.Parse, at every text. -/
import Derived.Test.YtaanhkepimjelaaDoorLib2
import Derived.Test.YtaanhkepimjelaaDoorCodeJ
import Derived.Test.YtaanhkepimjelaaDoorCodeT
import Derived.Lib.ParseIntBTie
namespace Go.Proofs.YtaanhkepimjelaaDoor
open Go.RowKit Go.Sort
set_option linter.unusedVariables false
set_option linter.unusedSimpArgs false

/-- What is laid of packages strings, strconv, unicode and bytealg, as code.Parse asks for it. -/
structure ParseTabs (w : World) : Prop where
  most : ∃ m, w.cell? ⟨6, 0, none⟩ = some (.int .i64 m)
  bad : ∃ ev, w.cell? ⟨4, 0, none⟩ = some ev ∧ (ev = .nilIface ∨ ∃ te pe, ev = .iface te pe)
  wide : ∃ ev, w.cell? ⟨5, 0, none⟩ = some ev ∧ (ev = .nilIface ∨ ∃ te pe, ev = .iface te pe)
  spaces : Lib.TabIs Tryd.prog w "strings.asciiSpace" .u8 Lib.asciiSpaceTab
  white : Lib.WhiteTab 2 w
theorem ParseTabs.below {w w' : World} (h : ParseTabs w) (hb : Below w.heap.size w w') : ParseTabs w' where
  most := h.most.imp fun _ h => cell_later hb h
  bad := h.bad.imp fun _ h => ⟨cell_later hb h.1, h.2⟩
  wide := h.wide.imp fun _ h => ⟨cell_later hb h.1, h.2⟩
  spaces := Lib.tabBelow_of_tabIs h.spaces w' hb
  white := Go.Proofs.WhiteTab_below h.white hb
theorem below_or {w w' : World} (h : w' = w ∨ ∃ t, w' = Lib.bytesWorld w 5 t) : Below w.heap.size w w' := by
  rcases h with rfl | ⟨t, rfl⟩
  · exact Below.refl _ _
  · exact Lib.bytesWorld_below _ _ _
theorem atoi_every (s : ByteArray) (hs : s.size ≤ 100000) (w : World) (hT : ParseTabs w) :
    Calls Tryd.prog 41 #[.string s] w fun e w' => ∃ (v : Int) (er : Value), e = .returned (.tuple #[.int .i64 v, er]) ∧ v = atoiV s.data.toList ∧ -9223372036854775808 ≤ v ∧ v ≤ 9223372036854775807 ∧ ((er = .nilIface ∧ atoiO s.data.toList = some v) ∨ (∃ N, er = .iface 124 (.pointer (some ⟨N, 0, none⟩)) ∧ atoiO s.data.toList = none)) ∧ Below w.heap.size w w' := by
  have e1 : atoiV s.data.toList = (match Lib.atoiAll s.data.toList with | .ok v => v | .range => Lib.atoiSat s.data.toList | _ => 0) := rfl
  have e2 : atoiO s.data.toList = (match Lib.atoiAll s.data.toList with | .ok v => some v | _ => none) := rfl
  have hsat : -9223372036854775808 ≤ Lib.atoiSat s.data.toList ∧ Lib.atoiSat s.data.toList ≤ 9223372036854775807 := by
    unfold Lib.atoiSat
    split <;> decide
  cases h : Lib.atoiAll s.data.toList with
  | ok v =>
    rw [h] at e1 e2
    refine (Tryd.strconv_Atoi_ok s (by omega) v h w).mono ?_
    rintro e w' ⟨rfl, hw⟩
    have hb := Lib.atoiAll_bounds h
    exact ⟨v, _, rfl, e1.symm, hb.1, hb.2, .inl ⟨rfl, e2⟩, below_or hw⟩
  | range =>
    rw [h] at e1 e2
    obtain ⟨ev, hv, hev⟩ := hT.wide
    refine (Tryd.strconv_Atoi_range s (by omega) h ev w hv hev).mono ?_
    rintro e w' ⟨N, rfl, _, _, hb⟩
    exact ⟨_, _, rfl, e1.symm, hsat.1, hsat.2, .inr ⟨N, rfl, e2⟩, hb⟩
  | _ =>
    rw [h] at e1 e2
    obtain ⟨ev, hv, hev⟩ := hT.bad
    refine (Any.strconv_Atoi_syntax Tryd.laysC172 s (by omega) h ev w hv hev).mono ?_
    rintro e w' ⟨N, rfl, _, _, hb⟩
    exact ⟨_, _, rfl, e1.symm, by decide, by decide, .inr ⟨N, rfl, e2⟩, hb⟩
theorem pint_every (s : ByteArray) (hs : s.size ≤ 100000) (w : World) (hT : ParseTabs w) :
    Calls Tryd.prog 45 #[.string s, .int .i64 10, .int .i64 64] w fun e w' => ∃ (v : Int) (er : Value), e = .returned (.tuple #[.int .i64 v, er]) ∧ v = intV s.data.toList ∧ -9223372036854775808 ≤ v ∧ v ≤ 9223372036854775807 ∧ Below w.heap.size w w' := by
  have e1 : intV s.data.toList = (match Lib.parseIntB 64 s.data.toList with | .ok v => v | .range => Lib.intSat 64 s.data.toList | _ => 0) := rfl
  have hsat : -9223372036854775808 ≤ Lib.intSat 64 s.data.toList ∧ Lib.intSat 64 s.data.toList ≤ 9223372036854775807 := by
    unfold Lib.intSat
    split <;> decide
  cases h : Lib.parseIntB 64 s.data.toList with
  | ok v =>
    rw [h] at e1
    refine (Tryd.strconv_ParseInt_10_at64_ok s (by omega) v h w).mono ?_
    rintro e w' ⟨rfl, hw⟩
    rw [Lib.parseIntB_64] at h
    have hb := Lib.atoiAll_bounds h
    exact ⟨v, _, rfl, e1.symm, hb.1, hb.2, below_or hw⟩
  | range =>
    rw [h] at e1
    obtain ⟨ev, hv, hev⟩ := hT.wide
    refine (Tryd.strconv_ParseInt_10_at64_range s (by omega) h ev w hv hev).mono ?_
    rintro e w' ⟨N, rfl, _, _, hb⟩
    exact ⟨_, _, rfl, e1.symm, hsat.1, hsat.2, hb⟩
  | _ =>
    rw [h] at e1
    obtain ⟨ev, hv, hev⟩ := hT.bad
    refine (Any.strconv_ParseInt_10_at64_syntax Tryd.laysC174 s (by omega) h ev w hv hev).mono ?_
    rintro e w' ⟨N, rfl, _, _, hb⟩
    exact ⟨_, _, rfl, e1.symm, by decide, by decide, hb⟩
end Go.Proofs.YtaanhkepimjelaaDoor
