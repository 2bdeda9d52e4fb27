/- The walk of call.row. -/
import Derived.Test.YtgphigpbgiceiaaGreatDoorPk0
import Derived.Test.YtgphigpbgiceiaaGreatDoorJoin2
import Derived.Test.YtgphigpbgiceiaaGreatDoorPk18
namespace Go.Proofs.YtgphigpbgiceiaaGreatDoor
open Go.RowKit Go.Sort
set_option linter.unusedVariables false
set_option linter.unusedSimpArgs false

theorem Tryz.infoStr : (Tryz.prog.info? 9).map (fun i => (i.zero, i.size, i.bytes)) = some (some (.string ⟨#[]⟩), 1, 16) := by kernel_rfl
/-- strconv's table of tens. -/
def PowIs (w : World) : Prop := Lib.TabIs Tryz.prog w "internal/strconv.uint64pow10" .u64 Lib.pow10Tab
theorem PowIs.below {w w' : World} (h : PowIs w) (hb : Below w.heap.size w w') : PowIs w' := Lib.tabBelow_of_tabIs h w' hb
/-- The tables that chapter 16's texts ask. -/
structure CtTabs (w : World) : Prop where
  pow : Lib.TabIs Tryz.prog w "internal/strconv.uint64pow10" .u64 Lib.pow10Tab
  spaces : Lib.TabIs Tryz.prog w "strings.asciiSpace" .u8 Lib.asciiSpaceTab
theorem CtTabs.below {w w' : World} (h : CtTabs w) (hb : Below w.heap.size w w') : CtTabs w' where
  pow := Lib.tabBelow_of_tabIs h.pow w' hb
  spaces := Lib.tabBelow_of_tabIs h.spaces w' hb
def itoaB (n : Int) : ByteArray := ⟨(Lib.itoa n).toArray⟩
theorem itoaB_size (n : Int) : (itoaB n).size = (Lib.itoa n).length := rfl

set_option maxHeartbeats 4000000 in
set_option maxRecDepth 100000 in
theorem row16_any (between : ByteArray) (A : Option Addr) (c : Nat) (l : List Int) (w : World) (hR : IntRow w A l) (hb : between.size ≤ 100) (hl : l.length ≤ 100) (hn : ∀ n ∈ l, -9223372036854775808 ≤ n ∧ n ≤ 9223372036854775807) (hT : PowIs w) :
    Calls Tryz.prog 20 #[.string between, .slice A l.length c] w fun e w' => e = .returned (.string ⟨(Lib.join (l.map Lib.itoa) between.data.toList).toArray⟩) ∧ Below w.heap.size w w' := by
  obtain ⟨i1, hi1, hz01, hz11, hz21⟩ := info_parts Tryz.infoStr
  have H1 := Lib.hid (And.intro hi1 (And.intro hz01 (And.intro hz11 hz21)))
  clear hi1 hz01 hz11 hz21
  have HR := Lib.hid hR
  have HT := Lib.hid hT
  have HN := Lib.hid hn
  clear hR hT hn
  go_enter Tryz.func20, Tryz.ntmps20
  go_wp2_with fail
  go_loopg [5, 10] (l.length + 1) (fun g s i wx => ∃ (k cA : Nat) (Av : Option Addr), s = .slice Av k cA ∧ i = .int .i64 k ∧ k ≤ l.length ∧ l.length - k < g ∧ Hid (wx.ownsRow w.heap.size 9 1 (.slice Av k cA) k ((l.take k).map fun n => Value.string (itoaB n))) ∧ Hid (Below w.heap.size w wx))
  case atStart => exact ⟨0, 0, none, rfl, rfl, by omega, by omega, World.ownsRow_nil _ _ _ _, Below.refl _ _⟩
  case round =>
    obtain ⟨k, cA, Av, rfl, rfl, hk, hg, HO, HB⟩ := hrel
    obtain ⟨g, rfl⟩ : ∃ g, gk = g + 1 := ⟨gk - 1, by omega⟩
    by_cases hlt : k < l.length
    · obtain ⟨b, o, rfl, hb0, hc⟩ := HR.out k hlt
      have c0 := cell_later HB.out hc
      have hnk := HN.out l[k] (List.getElem_mem hlt)
      have HTK := Lib.hid (List.take_succ_eq_append_getElem hlt)
      generalize l[k] = n at *
      have HIT := Lib.hid (Tryz.strconv_FormatInt_10 n hnk.1 hnk.2 wr (HT.out.below HB.out))
      have hil := Lib.itoa_length_le n hnk.1 hnk.2
      go_wp2_with fail
      refine HIT.out.mono ?_
      rintro e w2 ⟨rfl, kq, os, hw2⟩
      have hb2 : Below wr.heap.size wr w2 := Gr.below ⟨kq, os, hw2⟩
      have HO2 := Lib.hid (own_below5 HO.out hb2)
      have HB2 := Lib.hid (HB.out.trans (hb2.mono HB.out.size))
      clear hw2 hb2 HO HB c0 HIT
      rw [show (⟨(Lib.itoa n).toArray⟩ : ByteArray) = itoaB n from rfl]
      have HO7 := Lib.hid (HO2.out.alloc (.cells #[.string (itoaB n)] 9))
      have HB7 := Lib.hid (HB2.out.alloc HB2.out.size (.cells #[.string (itoaB n)] 9))
      have HNEWS := Lib.hid (World.news_of_block (w := w2.alloc (.cells #[.string (itoaB n)] 9)) (B := w2.heap.size) (cs := #[.string (itoaB n)]) (t := 9) (fr := (0, 0)) (heap_alloc_new _ _))
      have HONE := Lib.hid (show ∀ y ∈ [Value.string (itoaB n)], y.oneCell' = true by simp [Value.oneCell'])
      have H63 := Lib.hid (show k + 1 ≤ maxLen by unfold maxLen; omega)
      have HBY := Lib.hid (show (k + 1) * 16 ≤ 140737488355328 by omega)
      have HBASE := Lib.hid HB7.out.size
      go_wp2_with (at_builtin; refine wpList_append_lies _ rfl (.tmp 14) (.tmp 17) 57 rfl w.heap.size 9 i1 _ 1 16 Tryz.underlying57 H1.out.1 H1.out.2.1 H1.out.2.2.1 H1.out.2.2.2 rfl (by decide) (.slice Av k cA) k _ rfl HO7.out ⟨w2.heap.size, 0, none⟩ 1 1 [Value.string (itoaB n)] rfl rfl HNEWS.out HONE.out (by decide) H63.out HBY.out HBASE.out _ rfl ?_)
      intro g3 cap w8 hown hgrow _ _
      have HO8 := Lib.hid (show w8.ownsRow w.heap.size 9 1 (.slice (some ⟨g3, 0, none⟩) (k + 1) cap) (k + 1) ((l.take (k + 1)).map fun n => Value.string (itoaB n)) by rw [HTK.out, List.map_append, List.map_take]; exact hown)
      have HB8 := Lib.hid (below_grown5 HB7.out hgrow HBASE.out (fun g hg => (HO7.out.lt g hg).1))
      clear hown hgrow HO7 HB7 HNEWS HONE H63 HBY HBASE HO2 HB2
      go_wp2_with fail
      go_roundg g
      case measure => omega
      case rel => exact ⟨k + 1, cap, some ⟨g3, 0, none⟩, rfl, by go_num, by omega, by omega, HO8, HB8⟩
    · have hke : k = l.length := by omega
      subst hke
      have ho := HO.out
      rw [List.take_length] at ho
      have HOW := Lib.hid ho
      clear HO ho hlt
      rcases Nat.eq_zero_or_pos l.length with h0 | h0
      · have hl0 := List.eq_nil_of_length_eq_zero h0
        have HJ := Lib.hid (join_zero Av cA between wr)
        rw [h0]
        go_wp2_with fail
        refine HJ.out.mono ?_
        rintro e w9 ⟨rfl, rfl⟩
        go_wp2_with fail
        go_ret
        exact ⟨ret_str (by rw [hl0]; rfl), HB.out⟩
      · obtain ⟨g, rfl⟩ := own_some HOW.out h0
        have hlt := (HOW.out.lt g (by rfl)).2
        have HJ := Lib.hid (join_any g cA (l.map itoaB) between wr (fun k hk => by
          have hk' : k < l.length := by simpa using hk
          rw [HOW.out.cellAt k (by omega)]
          simp [hk']) hlt (by rw [List.length_map]; omega) hb (fun x hx => by
          obtain ⟨n, hn, rfl⟩ := List.mem_map.1 hx
          have h := HN.out n hn
          rw [itoaB_size]
          have := Lib.itoa_length_le n h.1 h.2
          omega) (fun x hx h => by
          obtain ⟨n, hn, rfl⟩ := List.mem_map.1 hx
          rw [itoaB_size] at h
          exact itoa_ne n (List.eq_nil_of_length_eq_zero h)) (by
          obtain ⟨A9, c9, hv, hle, _⟩ := own_shape HOW.out
          injection hv with _ _ hcc
          rw [List.length_map]
          omega) (by rw [List.length_map]; omega))
        rw [List.length_map, List.map_map] at HJ
        go_wp2_with fail
        refine HJ.out.mono ?_
        rintro e w9 ⟨rfl, hb9⟩
        have HB9 := Lib.hid (HB.out.trans (hb9.mono HB.out.size))
        clear hb9
        go_wp2_with fail
        go_ret
        exact ⟨rfl, HB9.out⟩
end Go.Proofs.YtgphigpbgiceiaaGreatDoor
