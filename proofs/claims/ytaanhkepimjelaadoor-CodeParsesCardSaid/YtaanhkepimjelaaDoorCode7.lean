/- The walk of slices.Repeat at one number. -/
import Derived.Test.YtaanhkepimjelaaDoorCode6
import Derived.Test.YtaanhkepimjelaaDoorShelf
import Derived.Deep.OwnRows
import Derived.IntWalk
import Derived.Laws.CopyOwn
import Derived.Deep.RegionLaw
namespace Go.Proofs.YtaanhkepimjelaaDoor
open Go.RowKit Go.Sort
set_option linter.unusedVariables false
set_option linter.unusedSimpArgs false

theorem Tryd.infoInt : (Tryd.prog.info? 3).map (fun i => (i.zero, i.size, i.bytes)) = some (some (.int .i64 0), 1, 8) := by kernel_rfl
theorem Tryd.sizeInt : (Tryd.prog.info? 3).map (·.size) = some 1 := by kernel_rfl
/-- Cells: so many are filled, the others are 0. -/
def fl (m n : Nat) : List Value := List.replicate m (Value.int .i64 (-1)) ++ List.replicate (n - m) (Value.int .i64 0)
theorem fl_len {m n : Nat} (h : m ≤ n) : (fl m n).length = n := by simp [fl]; omega
theorem fl_full (n : Nat) : fl n n = List.replicate n (Value.int .i64 (-1)) := by simp [fl]
theorem splice_fl {m k n : Nat} (h : m + k ≤ n) : splice (fl m n) m (List.replicate k (Value.int .i64 (-1))) = fl (m + k) n := by
  unfold splice fl
  rw [List.take_append_of_le_length (by simp), List.take_of_length_le (by simp), List.drop_append, List.drop_eq_nil_of_le (by simp), List.length_replicate, List.length_replicate, List.drop_replicate, List.nil_append, ← List.append_assoc, List.replicate_append_replicate]
  congr 2
  omega
theorem made_fl (n : Nat) : madeCells #[Value.int .i64 0] n = (fl 0 n).toArray := by
  apply Array.ext'
  rw [toList_madeCells_one]
  simp [fl]
theorem fl_get {m n j : Nat} (h : j < m) : (fl m n)[j]? = some (.int .i64 (-1)) := by
  unfold fl
  rw [List.getElem?_append_left (by simpa using h)]
  simp [h]

set_option maxHeartbeats 4000000 in
set_option maxRecDepth 100000 in
theorem repeat_any (n b0 o0 c0 : Nat) (w : World) (hn : 0 < n) (hn2 : n ≤ 4000) (h0 : w.cell? ⟨b0, o0, none⟩ = some (.int .i64 (-1))) :
    Calls Tryd.prog 25 #[.slice (some ⟨b0, o0, none⟩) 1 c0, .int .i64 n] w fun e w' =>
      ∃ b, e = .returned (.slice (some ⟨b, 0, none⟩) n n) ∧ w.heap.size ≤ b ∧ w'.heap[b]? = some (.cells (List.replicate n (Value.int .i64 (-1))).toArray 3 (0, 0)) ∧ Below w.heap.size w w' := by
  have hM : ∀ w', Calls Tryd.prog 52 #[.int .u64 1, .int .u64 n] w' fun e w'' => e = .returned (.tuple #[.int .u64 0, .int .u64 n]) ∧ w'' = w' := fun w' => by
    have h := Tryd.bits_Mul 1 n (by omega) (by omega) w'
    rw [Nat.one_mul, Nat.div_eq_of_lt (by omega), Nat.mod_eq_of_lt (by omega)] at h
    exact h
  have hmk : ∀ w : World, (Instr.makeSlice 23 (.int .i64 n) (.int .i64 n)).run Tryd.prog w = .ok (.slice (some ⟨w.heap.size, 0, none⟩) n n) (w.alloc (.cells (fl 0 n).toArray 3)) := fun w => by
    rw [← made_fl]
    exact run_make_row' 23 3 (.int .i64 0) 8 Tryd.underlying23 Tryd.infoInt rfl .i64 .i64 n (by omega) (by omega) w
  have hbn : Below w.heap.size w (w.alloc (.cells (fl 0 n).toArray 3)) := (Below.refl _ _).alloc (Nat.le_refl _) _
  have hblk : (w.alloc (.cells (fl 0 n).toArray 3)).heap[w.heap.size]? = some (.cells (fl 0 n).toArray 3 (0, 0)) := heap_alloc_new _ _
  have h1 := cell_later hbn h0
  have HM := Lib.hid hM
  clear hM h0
  go_enter Tryd.func25, Tryd.ntmps25
  go_upto_region 7 with (go_at_call 52; refine (HM.out _).mono ?_; rintro e w ⟨rfl, rfl⟩)
  clear hmk HM
  generalize w.alloc (.cells (fl 0 n).toArray 3) = w1 at *
  have HB := Lib.hid hblk
  have HBN := Lib.hid hbn
  clear hblk hbn
  have HS := Lib.hid (fun (j : Nat) (v : Value) (h : [Value.int .i64 (-1)][j]? = some v) => show w1.cell? ((⟨b0, o0, none⟩ : Addr).add j) = some v by
    cases j with
    | zero => rw [show (⟨b0, o0, none⟩ : Addr).add 0 = ⟨b0, o0, none⟩ from rfl, h1, ← h]; rfl
    | succ j => simp at h)
  have HL := Lib.hid (show 0 + [Value.int .i64 (-1)].length ≤ (fl 0 n).length by rw [fl_len (by omega)]; simp; omega)
  have HM1 := Lib.hid (show [Value.int .i64 (-1)].length = Nat.min 1 n by show 1 = min 1 n; omega)
  have H1 := Lib.hid (show ∀ v ∈ [Value.int .i64 (-1)], v.oneCell' = true by simp [Value.oneCell'])
  go_wp2_with (with_reducible refine wpList_copy_splice rfl (.tmp 31) (.tmp 32) 23 23 rfl 3 Tryd.underlying23 Tryd.sizeInt (some ⟨w.heap.size, 0, none⟩) (some ⟨b0, o0, none⟩) n n 1 c0 rfl rfl w.heap.size 0 (fl 0 n) 3 HB.out [Value.int .i64 (-1)] HM1.out (fun _ => ⟨rfl, _, rfl, HS.out⟩) HL.out H1.out w.heap.size w HBN.out (Nat.le_refl _) ?_)
  intro w2 HB2 hb2
  have HBN2 := Lib.hid hb2
  clear hb2 HB HBN HS HL HM1 H1 h1
  replace HB2 := Lib.hid (show w2.heap[w.heap.size]? = some (.cells (fl 1 n).toArray 3 (0, 0)) by
    have h := HB2.out
    rw [show splice (fl 0 n) 0 [Value.int .i64 (-1)] = fl 1 n from splice_fl (m := 0) (k := 1) (by omega)] at h
    exact h)
  go_wp2_with fail
  go_loopg [8] (n + 1) (fun g i wx => ∃ m : Nat, i = .int .i64 m ∧ 1 ≤ m ∧ m ≤ n ∧ n - m < g ∧ Hid (wx.heap[w.heap.size]? = some (.cells (fl m n).toArray 3 (0, 0))) ∧ Hid (Below w.heap.size w wx))
  case atStart => exact ⟨1, rfl, by omega, by omega, by omega, HB2, HBN2⟩
  case round =>
    obtain ⟨m, rfl, hm1, hm, hg, HB, HBN⟩ := hrel
    obtain ⟨g, rfl⟩ : ∃ g, gk = g + 1 := ⟨gk - 1, by omega⟩
    clear HB2 HBN2
    by_cases hlt : m < n
    · have hne : ¬ n = m := by omega
      go_upto_region 9 with fail
      have HS := Lib.hid (fun (j : Nat) (v : Value) (h : (List.replicate (min m (n - m)) (Value.int .i64 (-1)))[j]? = some v) => show wr.drew.cell? ((⟨w.heap.size, 0, none⟩ : Addr).add j) = some v by
        have hj : j < min m (n - m) := by
          have := (List.getElem?_eq_some_iff.1 h).1
          simpa using this
        have hv : v = .int .i64 (-1) := by
          rw [List.getElem?_replicate, if_pos hj] at h
          exact (Option.some.inj h).symm
        rw [Addr.add_lit, Nat.zero_add, hv]
        show wr.cell? _ = _
        rw [Lib.cell_of_heap HB.out, List.getElem?_toArray, fl_get (by omega)])
      have HL := Lib.hid (show m + (List.replicate (min m (n - m)) (Value.int .i64 (-1))).length ≤ (fl m n).length by rw [fl_len hm, List.length_replicate]; omega)
      have HM1 := Lib.hid (show (List.replicate (min m (n - m)) (Value.int .i64 (-1))).length = Nat.min m (n - m) from List.length_replicate)
      have H1 := Lib.hid (show ∀ v ∈ List.replicate (min m (n - m)) (Value.int .i64 (-1)), v.oneCell' = true by
        intro v hv
        rw [List.eq_of_mem_replicate hv]
        rfl)
      have HSP := Lib.hid (splice_fl (m := m) (k := min m (n - m)) (n := n) (by omega))
      have HLE := Lib.hid (List.length_replicate (n := min m (n - m)) (a := Value.int .i64 (-1)))
      obtain ⟨cs, hcs⟩ : ∃ cs, cs = List.replicate (min m (n - m)) (Value.int .i64 (-1)) := ⟨_, rfl⟩
      rw [← hcs] at HS HL HM1 H1 HSP HLE
      clear hcs
      go_region_law (refine step_copy_splice rfl (.tmp 41) (.tmp 44) 23 23 rfl 3 Tryd.underlying23 Tryd.sizeInt (some ⟨w.heap.size, m, none⟩) (some ⟨w.heap.size, 0, none⟩) (n - m) (n - m) m n (by simp [Act.eval, Act.put]) (by simp [Act.eval, Act.put]) w.heap.size m (fl m n) 3 HB.out cs HM1.out (fun _ => ⟨rfl, _, rfl, HS.out⟩) HL.out H1.out w.heap.size w HBN.out.drew (Nat.le_refl _) ?_; intro w4 hg4 hb4)
      have HB4 := Lib.hid (show w4.heap[w.heap.size]? = some (.cells (fl (m + cs.length) n).toArray 3 (0, 0)) by
        rw [HLE.out, ← HSP.out]
        exact hg4.out)
      have HBN4 := Lib.hid hb4
      have hcl := HLE.out
      generalize cs.length = q at *
      have hq1 : 1 ≤ q := by omega
      have hq2 : m + q ≤ n := by omega
      clear hcl
      clear hg4 hb4 HSP HS HL HM1 H1 HLE
      go_wp2_with fail
      go_roundg g
      case measure => omega
      case rel => exact ⟨m + q, by rw [IntWalk.i64_in _ (by omega)]; simp, by omega, by omega, by omega, HB4, HBN4⟩
    · have hme : m = n := by omega
      have h := HB.out
      rw [hme, fl_full] at h
      have HB5 := Lib.hid h
      clear h
      go_wp2_with fail
      go_ret
      exact ⟨w.heap.size, rfl, Nat.le_refl _, HB5.out, HBN.out⟩
end Go.Proofs.YtaanhkepimjelaaDoor
