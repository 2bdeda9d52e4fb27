/- The walk of scan.reader's skip. -/
import Derived.Test.YtjfoinikdifgmaaDoorScan2
import Derived.Test.YtjfoinikdifgmaaDoorAdv
import Derived.Lib.IndexBytes
namespace Go.Proofs.YtjfoinikdifgmaaDoor
open Go.RowKit

/-- A reader in block b. -/
def RdAt (w : World) (b : Nat) (s : ByteArray) (line col : Int) : Prop := w.heap[b]? = some (.cells #[.string s, .int .i64 line, .int .i64 col] 58 (0, 0))

theorem rdAt_set {w : World} {b : Nat} {s : ByteArray} {l c : Int} (h : RdAt w b s l c) (s' : ByteArray) : RdAt (w.setCell ⟨b, 0, none⟩ (.string s')) b s' l c := by
  unfold RdAt at h ⊢
  simp [World.setCell, Array.getElem?_modify, h]
theorem rdAt_set1 {w : World} {b : Nat} {s : ByteArray} {l c : Int} (h : RdAt w b s l c) (l' : Int) : RdAt (w.setCell ⟨b, 1, none⟩ (.int .i64 l')) b s l' c := by
  unfold RdAt at h ⊢
  simp [World.setCell, Array.getElem?_modify, h]
theorem rdAt_set2 {w : World} {b : Nat} {s : ByteArray} {l c : Int} (h : RdAt w b s l c) (c' : Int) : RdAt (w.setCell ⟨b, 2, none⟩ (.int .i64 c')) b s l c' := by
  unfold RdAt at h ⊢
  simp [World.setCell, Array.getElem?_modify, h]
theorem grownBy_set {a w : World} {b : Nat} (h : a.grownBy w (some b)) (o : Nat) (u : Value) : a.grownBy (w.setCell ⟨b, o, none⟩ u) (some b) :=
  ⟨h.os, h.tape, h.output, by simpa [World.setCell] using h.size, fun k hk hne => by
    rw [Below.heap_setCell _ _ _ _ (fun e => hne (by rw [e]))]
    exact h.block k hk hne⟩
theorem RdAt.c0 {w : World} {b : Nat} {s : ByteArray} {l c : Int} (h : RdAt w b s l c) : w.cell? ⟨b, 0, none⟩ = some (.string s) := by rw [Lib.cell_of_heap h]; rfl
theorem RdAt.c1 {w : World} {b : Nat} {s : ByteArray} {l c : Int} (h : RdAt w b s l c) : w.cell? ⟨b, 1, none⟩ = some (.int .i64 l) := by rw [Lib.cell_of_heap h]; rfl
theorem RdAt.c2 {w : World} {b : Nat} {s : ByteArray} {l c : Int} (h : RdAt w b s l c) : w.cell? ⟨b, 2, none⟩ = some (.int .i64 c) := by rw [Lib.cell_of_heap h]; rfl
theorem RdAt.f {w : World} {b : Nat} {s : ByteArray} {l c : Int} (h : RdAt w b s l c) (i : Nat) : w.frozen? ⟨b, i, none⟩ = false := Lib.frozen_of_heap h i

set_option maxHeartbeats 2000000 in
set_option maxRecDepth 100000 in
theorem skip_any (b n : Nat) (s : ByteArray) (line col : Int) (w : World) (hb : RdAt w b s line col) (hn : n ≤ s.size) (hs : s.size ≤ 100000) (h1 : 0 ≤ line) (h2 : line ≤ 100000) (h3 : 0 ≤ col) (h4 : col ≤ 200000) :
    Calls Tryd.prog 38 #[.pointer (some ⟨b, 0, none⟩), .int .i64 n] w fun e w' => e = .returned (.tuple #[]) ∧
      (RdAt w' b (s.extract n s.size) (adv (s.data.toList.take n) line col).1 (adv (s.data.toList.take n) line col).2 ∧ w.grownBy w' (some b)) := by
  have c0 := hb.c0
  have c1 := hb.c1
  have c2 := hb.c2
  have f0 := hb.f 0
  have f1 := hb.f 1
  have f2 := hb.f 2
  have hgd : (s.extract 0 n).data.toList = s.data.toList.take n := by rw [Lib.extract_data]; simp
  have hgs : (s.extract 0 n).size = n := by rw [ByteArray.size_extract]; omega
  have HC : ∀ w, Calls Tryd.prog 49 #[.string (s.extract 0 n), .string ⟨#[10]⟩] w fun e w' => e = .returned (.int .i64 (Lib.countByte (s.extract 0 n).data.toList 10)) ∧ w' = w := fun w => Tryd.strings_Count_one (s.extract 0 n) 10 w
  have hline := adv_line (s.data.toList.take n) line col
  have hcl : Lib.countByte (s.extract 0 n).data.toList 10 ≤ n := by
    rw [hgd]
    refine Nat.le_trans List.count_le_length ?_
    rw [List.length_take]; omega
  rw [← hgd] at hline ⊢
  by_cases hz : Lib.countByte (s.extract 0 n).data.toList 10 = 0
  · have hadv := adv_plain (s.extract 0 n).data.toList line col (countByte_zero.1 hz)
    rw [hadv]
    rw [hz] at HC
    have hl2 : (s.extract 0 n).data.toList.length = n := by rw [hgd, List.length_take]; simp; omega
    rw [hl2]
    have HCC := Lib.hid HC
    have HGS := Lib.hid hgs
    clear HC hadv hline hcl hz hgd hl2 hgs
    have hgs2 : (s.extract 0 n).size ≤ n := by rw [HGS.out]; exact Nat.le_refl _
    go_enter Tryd.func38, Tryd.ntmps38
    go_wp2_with fail
    refine (HCC.out _).mono ?_
    rintro e w' ⟨rfl, rfl⟩
    go_wp2_with fail
    go_end0
    have hgs := HGS.out
    refine ⟨rfl, ?_, ?_⟩
    · have := rdAt_set2 (rdAt_set hb (s.extract n s.size)) (col + (n : Int))
      simpa [hgs] using this
    · exact grownBy_set (grownBy_set (World.grownBy.refl w _) _ _) _ _
  · obtain ⟨i, hi, hlt, m, r, hsp, hm, hr⟩ := last_split (s.extract 0 n) hz
    have hcol := adv_col m r line col hr
    rw [← hsp] at hcol
    have hrl : ((10 :: r : List UInt8).length : Int) = (n : Int) - i := by
      have h5 := congrArg List.length hsp
      have h6 : (s.extract 0 n).data.toList.length = n := by rw [hgd, List.length_take]; simp; omega
      rw [h6] at h5
      simp only [List.length_append, List.length_cons] at h5 ⊢
      omega
    rw [hrl] at hcol
    rw [hline, hcol]
    have HL : ∀ w, Calls Tryd.prog 50 #[.string (s.extract 0 n), .int .u8 10] w fun e w' => e = .returned (.int .i64 (i : Int)) ∧ w' = w := fun w => by
      rw [← hi]; exact Tryd.strings_LastIndexByte (s.extract 0 n) 10 (by omega) w
    generalize hk : Lib.countByte (s.extract 0 n).data.toList 10 = k at *
    have hk0 : 0 < k := by omega
    have hin : i < n := by omega
    have hx : ((s.extract 0 n).extract i (s.extract 0 n).size).size = n - i := by rw [ByteArray.size_extract]; omega
    have HCC := Lib.hid HC
    have HLL := Lib.hid HL
    have HGS := Lib.hid hgs
    have HX := Lib.hid hx
    have hgs2 : (s.extract 0 n).size ≤ n := by omega
    have hgs3 : n ≤ (s.extract 0 n).size := by omega
    clear HC HL hk hline hcol hrl hsp hm hr hi hgd hz hgs hx
    go_enter Tryd.func38, Tryd.ntmps38
    go_wp2_with fail
    refine (HCC.out _).mono ?_
    rintro e w' ⟨rfl, rfl⟩
    go_wp2_with fail
    refine (HLL.out _).mono ?_
    rintro e w' ⟨rfl, rfl⟩
    go_wp2_with fail
    go_end0
    have hx := HX.out
    have hgs := HGS.out
    rw [hgs] at hx
    refine ⟨rfl, ?_, ?_⟩
    · have e : ((n - i : Nat) : Int) = (n : Int) - i := by omega
      rw [← e]
      exact rdAt_set2 (rdAt_set2 (rdAt_set1 (rdAt_set hb _) _) _) _
    · repeat (refine grownBy_set ?_ _ _)
      exact World.grownBy.refl w _
end Go.Proofs.YtjfoinikdifgmaaDoor
