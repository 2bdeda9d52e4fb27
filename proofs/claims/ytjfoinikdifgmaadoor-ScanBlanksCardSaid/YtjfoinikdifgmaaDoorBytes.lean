/- A slice of bytes that is read: the list of them; turned into a string; an argument opened. -/
import Derived.Test.YtjfoinikdifgmaaDoorProg
import Derived.Test.YtjfoinikdifgmaaDoorBase
import Derived.Test.YtjfoinikdifgmaaDoorTokP
import Derived.WalkKit
import Derived.WalkSpells
import Derived.Laws.BytesArg
import Derived.ProofKit
import Derived.OpenShut
namespace Go.Proofs.YtjfoinikdifgmaaDoor
open Go.RowKit Go.ChangeShapes Go.WideShapes

def ByteRow (w : World) (A : Option Addr) (l : List UInt8) : Prop :=
  ∀ k (hk : k < l.length), ∃ b o, A = some ⟨b, o, none⟩ ∧ b < w.heap.size ∧ w.cell? ⟨b, o + k, none⟩ = some (.int .u8 (l[k].toNat : Int))
theorem ByteRow.below {w w' : World} {A : Option Addr} {l : List UInt8} (h : ByteRow w A l) (hb : Below w.heap.size w w') : ByteRow w' A l := fun k hk => by
  obtain ⟨b, o, e, hlt, hc⟩ := h k hk
  exact ⟨b, o, e, Nat.lt_of_lt_of_le hlt hb.size, cell_later hb hc⟩

theorem convert_zero (w : World) (A : Option Addr) (c : Nat) : (convert 27 9 (.slice A 0 c)).run Tryd.prog w = .ok (.string ByteArray.empty) w := by
  have hs := Tryd.underlying27
  have he := Tryd.underlying5
  have hd := Tryd.underlying9
  cases A with
  | none => exact run_convert_bytes_nil w _ _ hs he 0 c _ hd
  | some ad =>
    rw [run_convert_bytes_string w _ _ _ _ 0 c hs he hd]
    have hl := run_loadCells_list (P := Tryd.prog) w ad [] (fun j v hj => by simp at hj)
    simp only [List.length_nil] at hl
    simp [Conv.bytesToString, hl]
theorem convert_row {w : World} {A : Option Addr} {l : List UInt8} (c : Nat) (h : ByteRow w A l) : (convert 27 9 (.slice A l.length c)).run Tryd.prog w = .ok (.string (bytesOf l)) w := by
  cases hl : l with
  | nil => exact convert_zero w A c
  | cons x r =>
    rw [← hl]
    obtain ⟨b, o, rfl, _, _⟩ := h 0 (by rw [hl]; simp)
    have := run_convert_bytes_arg w 27 5 Tryd.underlying27 Tryd.underlying5 b o l.length c (l.map fun x => (x.toNat : Int)) (by simp) (fun i hi => by
      obtain ⟨b', o', e, _, hc⟩ := h i hi
      have e2 := Option.some.inj e
      cases e2
      rw [hc]
      simp [List.getD_eq_getElem?_getD, List.getElem?_map, List.getElem?_eq_getElem hi]) 9 Tryd.underlying9
    rw [this]
    have e : strOfNums (l.map fun x => (x.toNat : Int)) = bytesOf l := by
      apply ByteArray.ext
      apply Array.ext'
      rw [strOfNums_data, List.map_map]
      refine (List.map_congr_left (g := id) (fun x _ => ?_)).trans (List.map_id _)
      simp
    rw [e]

section
variable {H : Type} {enc : TypeId × Value → H} {w : World} {base : Nat} {held : Bool}
theorem open_bytes {fuel : Nat} {A : Option Addr} {len cap : Nat} {x : DataW H × List MemPlace} (h : DataW.trod enc Tryd.prog w base (fun _ => true) held fuel 27 [.slice A len cap] = some x) :
    ∃ l : List UInt8, l.length = len ∧ ByteRow w A l ∧ len ≤ 9223372036854775807 ∧ len ≤ cap := by
  rcases open_ints Tryd.underlying27 Tryd.underlying5 (by kernel_rfl) h with ⟨hcs, _⟩ | ⟨a, len', cap', zs, hcs, _, hl, hm, hz, _, hcell, hwz⟩
  · simp only [List.cons.injEq, Value.slice.injEq, and_true] at hcs
    obtain ⟨rfl, rfl, rfl⟩ := hcs
    exact ⟨[], rfl, fun k hk => absurd hk (Nat.not_lt_zero _), by omega, by omega⟩
  · simp only [List.cons.injEq, Value.slice.injEq, and_true] at hcs
    obtain ⟨rfl, rfl, rfl⟩ := hcs
    have hzl : len ≤ zs.length := by simp at hz; omega
    refine ⟨(zs.take len).map fun z => UInt8.ofNat z.toNat, by simp; omega, fun k hk => ?_, by unfold maxLen at hm; omega, hl⟩
    have hk' : k < len := by simp at hk; omega
    have hkz : k < zs.length := by omega
    have h00 := hcell 0 (by omega)
    have ha : a = ⟨a.block, a.off, none⟩ := by
      cases a with
      | mk b o s =>
        cases s with
        | none => rfl
        | some x =>
          have h0' : (⟨b, o, some x⟩ : Addr).add 0 = ⟨b, o, some x⟩ := rfl
          rw [h0'] at h00
          simp only [World.cell?] at h00
          split at h00 <;> simp at h00
    have hlt : a.block < w.heap.size := by
      have := World.block_lt_of_cell? w _ h00
      exact this
    have hadd : a.add k = ⟨a.block, a.off + k, none⟩ := by
      rw [ha]
      unfold Addr.add
      split
      · rename_i h; subst h; rfl
      · rfl
    refine ⟨a.block, a.off, by rw [← ha], hlt, ?_⟩
    rw [← hadd, hcell k hkz]
    have hw := bounds_u8 (hwz zs[k] (List.getElem_mem hkz))
    simp only [List.getElem_map, List.getElem_take]
    rw [List.getD_eq_getElem?_getD, List.getElem?_eq_getElem hkz, Option.getD_some]
    have e : ((UInt8.ofNat zs[k].toNat).toNat : Int) = zs[k] := by
      rw [UInt8.toNat_ofNat']
      have : zs[k].toNat % 2 ^ 8 = zs[k].toNat := Nat.mod_eq_of_lt (by omega)
      omega
    rw [e]
end
end Go.Proofs.YtjfoinikdifgmaaDoor
