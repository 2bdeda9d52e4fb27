/- The walk of dispatcherlaw05.row. -/
import Derived.Test.YtaanhkepimjelaaDoorCode9
import Derived.Deep.RegionLaw
namespace Go.Proofs.YtaanhkepimjelaaDoor
open Go.RowKit Go.Sort
set_option linter.unusedVariables false
set_option linter.unusedSimpArgs false

set_option maxHeartbeats 4000000 in
set_option maxRecDepth 100000 in
theorem row_any (l : List Ins) (b0 n c : Nat) (w : World) (hn : n = 2 * l.length) (hl : l.length ≤ 100) (hok : ∀ i ∈ l, i.Ok) (hb0 : b0 < w.heap.size)
    (hc : ∀ k (hk : k < l.length), w.cell? ⟨b0, 2 * k, none⟩ = some (.int .i64 l[k].op) ∧ w.cell? ⟨b0, 2 * k + 1, none⟩ = some (.int .i64 l[k].n)) :
    Calls Tryd.prog 23 #[.slice (some ⟨b0, 0, none⟩) n c] w fun e w' => ∃ v, e = .returned v ∧ w'.ownsRow w.heap.size 33 2 v l.length (insCells l) ∧ Below w.heap.size w w' := by
  obtain ⟨i0, hi, hz0, hz1, hz2⟩ := info_parts Tryd.infoInstr
  have HC := Lib.hid hc
  have HOK := Lib.hid hok
  have HI := Lib.hid hi
  have HZ0 := Lib.hid hz0
  have HZ1 := Lib.hid hz1
  have HZ2 := Lib.hid hz2
  have hn2 : n ≤ 200 := by omega
  have HN := Lib.hid hn
  clear hc hok hi hz0 hz1 hz2 hn
  go_enter Tryd.func23, Tryd.ntmps23
  go_wp2_with fail
  go_loopg [3, 4] (l.length + 1) (fun g t i wx => ∃ (k : Nat) (k2 : Nat), i = .int .i64 k2 ∧ Hid (k2 = 2 * k) ∧ k2 ≤ 200 ∧ k ≤ l.length ∧ l.length - k < g ∧ Hid (wx.ownsRow w.heap.size 33 2 t k (insCells (l.take k))) ∧ Hid (Below w.heap.size w wx))
  case atStart => exact ⟨0, 0, rfl, rfl, by omega, by omega, by omega, ⟨by simp [insCells], .inl ⟨rfl, rfl⟩⟩, Below.refl _ _⟩
  case round =>
    obtain ⟨k, k2, rfl, HK2, hk200, hk, hg, HOWN, HBW⟩ := hrel
    obtain ⟨g, rfl⟩ : ∃ g, gk = g + 1 := ⟨gk - 1, by omega⟩
    by_cases hlt : k < l.length
    · have hkn : k2 + 1 < n := by have := HN.out; have := HK2.out; omega
      obtain ⟨A, c', hv, _, hc', _, _⟩ := own_shape HOWN.out
      obtain ⟨h0, h1⟩ := HC.out k hlt
      rw [← HK2.out] at h0 h1
      have h0 := cell_later (HBW.out.mono (Nat.le_refl _)) h0
      have h1 := cell_later (HBW.out.mono (Nat.le_refl _)) h1
      obtain ⟨⟨r0, r1⟩, r2, r3⟩ := HOK.out _ (List.getElem_mem hlt)
      have hsn := insCells_snoc (l.take k) l[k]
      rw [← List.take_succ_eq_append_getElem hlt] at hsn
      have HSN := Lib.hid hsn
      clear hsn
      generalize l[k].op = op at *
      generalize l[k].n = nn at *
      subst hv
      have HOWN1 := Lib.hid ((HOWN.out.alloc (.cells #[.int .u8 op, .int .i64 nn] 33)).drew)
      have HNEWS := Lib.hid (World.news_of_block (w := (wr.alloc (.cells #[.int .u8 op, .int .i64 nn] 33)).drew) (B := wr.heap.size) (cs := #[.int .u8 op, .int .i64 nn]) (t := 33) (fr := (0, 0)) (heap_alloc_new _ _))
      have HONE := Lib.hid (show ∀ u ∈ [Value.int .u8 op, Value.int .i64 nn], u.oneCell' = true by simp [Value.oneCell'])
      have H63 := Lib.hid (show k + 1 ≤ maxLen by unfold maxLen; omega)
      have HBY := Lib.hid (show (k + 1) * 16 ≤ 140737488355328 by omega)
      have HBASE := Lib.hid (show w.heap.size ≤ (wr.alloc (.cells #[.int .u8 op, .int .i64 nn] 33)).drew.heap.size from Nat.le_trans HBW.out.size (by simp [World.drew]))
      have HBW1 := Lib.hid ((HBW.out.alloc HBW.out.size (.cells #[.int .u8 op, .int .i64 nn] 33)).drew)
      have hk2n : k2 < n := by omega
      have h0k : 0 ≤ (k2 : Int) + 1 := by omega
      have hwk : IntKind.i64.wrap ((k2 : Int) + 1) = (k2 : Int) + 1 := IntWalk.i64_in _ (by omega)
      have hwu : IntKind.u8.wrap op = op := IntWalk.u8_in _ (by omega)
      go_upto_region 5 with fail
      go_region_law (refine step_append_lies _ rfl (.tmp 12) (.tmp 24) 22 rfl w.heap.size 33 i0 _ 2 16 Tryd.underlying22 HI.out HZ0.out HZ1.out HZ2.out rfl (by decide) (.slice A k c') k _ (by simp [Act.eval, Act.put]) HOWN1.out ⟨wr.heap.size, 0, none⟩ 1 1 [Value.int .u8 op, Value.int .i64 nn] (by simp [Act.eval, Act.put]) rfl HNEWS.out HONE.out (by decide) H63.out HBY.out HBASE.out _ rfl ?_; intro g3 cap3 w3 hown3 hgrow3 hat3 hlt3)
      all_goals
        have HO3 := Lib.hid (show w3.ownsRow w.heap.size 33 2 (.slice (some ⟨g3, 0, none⟩) (k + 1) cap3) (k + 1) (insCells (l.take (k + 1))) by rw [HSN.out]; exact hown3)
        have HBW3 := Lib.hid (below_grown5 HBW1.out hgrow3 HBASE.out (fun g hg => (HOWN1.out.lt g hg).1))
        have HK3 := Lib.hid (show k2 + 2 = 2 * (k + 1) by have := HK2.out; omega)
        clear hgrow3 hown3 hat3 hlt3 HOWN1 HNEWS HONE HBASE HBW1 HBY H63 h0 h1 hwk hwu HOWN HBW
        go_wp2_with fail
        go_roundg g
        case measure => omega
        case rel => exact ⟨k + 1, k2 + 2, by go_num, HK3, by have := HN.out; have := HK2.out; omega, by omega, by omega, HO3, HBW3⟩
    · have hke : k = l.length := by omega
      have hkn : ¬ k2 + 1 < n := by have := HN.out; have := HK2.out; omega
      have h := HOWN.out
      rw [hke, List.take_length] at h
      have HO := Lib.hid h
      clear h
      go_wp2_with fail
      go_ret
      exact ⟨_, rfl, HO.out, HBW.out⟩
end Go.Proofs.YtaanhkepimjelaaDoor
