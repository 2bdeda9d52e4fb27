/- The walk of dispatcherref16.Trim. -/
import Derived.Test.YtgphigpbgiceiaaDoorRUses
import Derived.Test.YtgphigpbgiceiaaDoorPk6
import Derived.Deep.Cut
namespace Go.Proofs.YtgphigpbgiceiaaDoor
open Go.RowKit Go.Sort
set_option linter.unusedVariables false
set_option linter.unusedSimpArgs false

def zeroCl : Cl := ⟨0, 0, 0, 0, 0, 0, 0, 0, [], 0, 0⟩
def pickI (b : Bool) (n : Int) : Int := if b = true then n else 0
def pickL (b : Bool) (l : List Int) : List Int := if b = true then l else []
/-- A call, trim, by letters. -/
def rtrim (c : Cl) : Cl := if usesS c.kind = [] then zeroCl else
  let h := fun x => (usesS c.kind).contains x
  ⟨c.kind, pickI (h 99) c.comm, pickI (h 112) c.peer, pickI (h 116) c.tag, pickI (h 118) c.value, pickI (h 115) c.size, pickI (h 114) c.root, pickI (h 111) c.op, pickL (h 108) c.reqs, pickI (h 107) c.color, pickI (h 107) c.key⟩
/-- A block of eleven cells. -/
def CBlk (w : World) (b : Nat) (cs : Array Value) : Prop := w.heap[b]? = some (.cells cs 29 (0, 0))
theorem CBlk.below {w w' : World} {b : Nat} {cs : Array Value} (h : CBlk w b cs) (hb : Below w.heap.size w w') : CBlk w' b cs := (hb.block b (Array.getElem?_eq_some_iff.1 h).1).trans h
theorem CBlk.cell {w : World} {b : Nat} {cs : Array Value} (h : CBlk w b cs) (j : Nat) (v : Value) (hv : cs[j]? = some v) : w.cell? ⟨b, j, none⟩ = some v := by
  rw [Lib.cell_of_heap h]
  exact hv
theorem CBlk.fz {w : World} {b : Nat} {cs : Array Value} (h : CBlk w b cs) (j : Nat) : w.frozen? ⟨b, j, none⟩ = false := by
  unfold CBlk at h
  simp [World.frozen?, h]
theorem CBlk.lt {w : World} {b : Nat} {cs : Array Value} (h : CBlk w b cs) : b < w.heap.size := (Array.getElem?_eq_some_iff.1 h).1
theorem CBlk.set {w : World} {b : Nat} {cs : Array Value} (h : CBlk w b cs) (j : Nat) (v : Value) : CBlk (w.setCell ⟨b, j, none⟩ v) b (cs.setIfInBounds j v) := by
  unfold CBlk
  rw [heap_setCell_same w b j _ _ _ h]
theorem CBlk.other {w : World} {b q : Nat} {cs : Array Value} (h : CBlk w b cs) (hq : q ≠ b) (j : Nat) (v : Value) : CBlk (w.setCell ⟨q, j, none⟩ v) b cs := by
  unfold CBlk
  rw [heap_setCell_other w ⟨q, j, none⟩ b v (fun e => hq e.symm)]
  exact h
/-- A row of numbers that lies apart of two blocks. -/
def IntApart (w : World) (B : Option Addr) (l : List Int) (q1 q2 : Nat) : Prop := IntRow w B l ∧ ∀ a, B = some a → a.block ≠ q1 ∧ a.block ≠ q2
theorem IntApart.set {w : World} {B : Option Addr} {l : List Int} {q1 q2 : Nat} (h : IntApart w B l q1 q2) (p : Addr) (hp : p.block = q1 ∨ p.block = q2) (v : Value) : IntApart (w.setCell p v) B l q1 q2 := by
  refine ⟨fun k hk => ?_, h.2⟩
  obtain ⟨b, o, e, hlt, hc⟩ := h.1 k hk
  refine ⟨b, o, e, by rw [World.size_setCell]; exact hlt, ?_⟩
  have hne : p ≠ ⟨b, o + k, none⟩ := by
    rintro rfl
    obtain ⟨n1, n2⟩ := h.2 _ e
    exact hp.elim n1 n2
  rw [World.cell?_setCell_other (h := hne)]
  exact hc

set_option maxHeartbeats 16000000 in
set_option maxRecDepth 100000 in
theorem rtrim_any (c : Cl) (A : Option Addr) (cap : Nat) (w : World) (hR : IntRow w A c.reqs) (hl : c.reqs.length ≤ 1000) :
    Calls Tryd.prog 23 #[.agg (clCells c A cap)] w fun e w' => ∃ (B : Option Addr) (cb : Nat), e = .returned (.agg (clCells (rtrim c) B cb)) ∧ IntRow w' B (rtrim c).reqs ∧ Below w.heap.size w w' := by
  obtain ⟨i1, hi1, hz01, hz11, hz21⟩ := info_parts Tryd.infoInt
  have H1 := Lib.hid (And.intro hi1 (And.intro hz01 (And.intro hz11 hz21)))
  clear hi1 hz01 hz11 hz21
  have e1 : Below w.heap.size w (w.alloc (.cells (clCells c A cap) 29)) := (Below.refl _ _).alloc (Nat.le_refl _) _
  have f1 : CBlk (w.alloc (.cells (clCells c A cap) 29)) w.heap.size (clCells c A cap) := heap_alloc_new _ _
  obtain ⟨w1, hw1⟩ : ∃ y, y = w.alloc (.cells (clCells c A cap) 29) := ⟨_, rfl⟩
  rw [← hw1] at e1 f1
  have z1 : w1.heap.size = w.heap.size + 1 := by rw [hw1]; simp
  obtain ⟨w2, hw2⟩ : ∃ y, y = w1.alloc (.cells #[.int .u8 0, .int .i64 0, .int .i64 0, .int .i64 0, .int .i64 0, .int .i64 0, .int .i64 0, .int .u8 0, .slice none 0 0, .int .i64 0, .int .i64 0] 29) := ⟨_, rfl⟩
  have e2 : Below w1.heap.size w1 w2 := by rw [hw2]; exact (Below.refl _ _).alloc (Nat.le_refl _) _
  have f2 : CBlk w2 w1.heap.size #[.int .u8 0, .int .i64 0, .int .i64 0, .int .i64 0, .int .i64 0, .int .i64 0, .int .i64 0, .int .u8 0, .slice none 0 0, .int .i64 0, .int .i64 0] := by rw [hw2]; exact heap_alloc_new _ _
  have z2 : w2.heap.size = w.heap.size + 1 + 1 := by rw [hw2]; simp [z1]
  obtain ⟨w3, hw3⟩ : ∃ y, y = w2.alloc (.cells #[.int .u8 0, .int .i64 0, .int .i64 0, .int .i64 0, .int .i64 0, .int .i64 0, .int .i64 0, .int .u8 0, .slice none 0 0, .int .i64 0, .int .i64 0] 29) := ⟨_, rfl⟩
  have e3 : Below w2.heap.size w2 w3 := by rw [hw3]; exact (Below.refl _ _).alloc (Nat.le_refl _) _
  have f3 : CBlk w3 w2.heap.size #[.int .u8 0, .int .i64 0, .int .i64 0, .int .i64 0, .int .i64 0, .int .i64 0, .int .i64 0, .int .u8 0, .slice none 0 0, .int .i64 0, .int .i64 0] := by rw [hw3]; exact heap_alloc_new _ _
  have e12 := e1.trans (e2.mono e1.size)
  have HB := Lib.hid (e12.trans (e3.mono e12.size))
  have HX := Lib.hid ((f1.below e2).below e3)
  rw [z1] at f2
  rw [z2] at f3
  have HRB := Lib.hid (f2.below e3)
  have HO := Lib.hid f3
  have HR := Lib.hid (hR.below HB.out)
  go_enter Tryd.func23, Tryd.ntmps23
  go_upto_region 2 with fail
  rw [← hw1, ← hw2, ← hw3]
  have HR0 := Lib.hid hR
  clear hw1 hw2 hw3 e1 e2 e3 e12 f1 f2 f3 z1 z2 hR HR
  have hb1 : w.heap.size ≤ w.heap.size + 1 := by omega
  have hb2 : w.heap.size ≤ w.heap.size + 1 + 1 := by omega
  have n01 : w.heap.size ≠ w.heap.size + 1 := by omega
  have n02 : w.heap.size ≠ w.heap.size + 1 + 1 := by omega
  have n21 : w.heap.size + 1 + 1 ≠ w.heap.size + 1 := by omega
  have n20 : w.heap.size + 1 + 1 ≠ w.heap.size := by omega
  generalize w.heap.size + 1 + 1 = q2 at *
  generalize w.heap.size + 1 = q1 at *
  have c0 := HX.out.cell 0 (.int .u8 c.kind) rfl
  have HU := Lib.hid (ruses_any c.kind w3)
  obtain ⟨s, hs⟩ : ∃ s : ByteArray, (⟨(usesS c.kind).toArray⟩ : ByteArray) = s := ⟨_, rfl⟩
  rw [hs] at HU
  have HS := Lib.hid hs
  clear hs
  go_wp2_with fail
  refine HU.out.mono ?_
  rintro e w4 ⟨rfl, rfl⟩
  cases dt : (s.toList == [])
  case true =>
    have HZC := Lib.hid (show rtrim c = zeroCl by
      have h := beq_iff_eq.1 dt
      rw [ByteArray.toList_eq, ← HS.out] at h
      unfold rtrim
      rw [if_pos h])
    have o0 := HO.out.cell 0 (.int .u8 0) rfl
    have o1 := HO.out.cell 1 (.int .i64 0) rfl
    have o2 := HO.out.cell 2 (.int .i64 0) rfl
    have o3 := HO.out.cell 3 (.int .i64 0) rfl
    have o4 := HO.out.cell 4 (.int .i64 0) rfl
    have o5 := HO.out.cell 5 (.int .i64 0) rfl
    have o6 := HO.out.cell 6 (.int .i64 0) rfl
    have o7 := HO.out.cell 7 (.int .u8 0) rfl
    have o8 := HO.out.cell 8 (.slice none 0 0) rfl
    have o9 := HO.out.cell 9 (.int .i64 0) rfl
    have oA := HO.out.cell 10 (.int .i64 0) rfl
    have f0 := HRB.out.fz 0
    have f1 := HRB.out.fz 1
    have f2 := HRB.out.fz 2
    have f3 := HRB.out.fz 3
    have f4 := HRB.out.fz 4
    have f5 := HRB.out.fz 5
    have f6 := HRB.out.fz 6
    have f7 := HRB.out.fz 7
    have f8 := HRB.out.fz 8
    have f9 := HRB.out.fz 9
    have fA := HRB.out.fz 10
    have rl := HRB.out.lt
    have r0 := HRB.out.cell 0 _ rfl
    have r1 := HRB.out.cell 1 _ rfl
    have r2 := HRB.out.cell 2 _ rfl
    have r3 := HRB.out.cell 3 _ rfl
    have r4 := HRB.out.cell 4 _ rfl
    have r5 := HRB.out.cell 5 _ rfl
    have r6 := HRB.out.cell 6 _ rfl
    have r7 := HRB.out.cell 7 _ rfl
    have r8 := HRB.out.cell 8 _ rfl
    have r9 := HRB.out.cell 9 _ rfl
    have rA := HRB.out.cell 10 _ rfl
    go_wp2_with fail
    have s0 : CBlk _ q1 #[.int .u8 0, .int .i64 0, .int .i64 0, .int .i64 0, .int .i64 0, .int .i64 0, .int .i64 0, .int .u8 0, .slice none 0 0, .int .i64 0, .int .i64 0] := CBlk.set HRB.out 0 (.int .u8 0 : Value)
    have s1 : CBlk _ q1 #[.int .u8 0, .int .i64 0, .int .i64 0, .int .i64 0, .int .i64 0, .int .i64 0, .int .i64 0, .int .u8 0, .slice none 0 0, .int .i64 0, .int .i64 0] := CBlk.set s0 1 (.int .i64 0 : Value)
    have s2 : CBlk _ q1 #[.int .u8 0, .int .i64 0, .int .i64 0, .int .i64 0, .int .i64 0, .int .i64 0, .int .i64 0, .int .u8 0, .slice none 0 0, .int .i64 0, .int .i64 0] := CBlk.set s1 2 (.int .i64 0 : Value)
    have s3 : CBlk _ q1 #[.int .u8 0, .int .i64 0, .int .i64 0, .int .i64 0, .int .i64 0, .int .i64 0, .int .i64 0, .int .u8 0, .slice none 0 0, .int .i64 0, .int .i64 0] := CBlk.set s2 3 (.int .i64 0 : Value)
    have s4 : CBlk _ q1 #[.int .u8 0, .int .i64 0, .int .i64 0, .int .i64 0, .int .i64 0, .int .i64 0, .int .i64 0, .int .u8 0, .slice none 0 0, .int .i64 0, .int .i64 0] := CBlk.set s3 4 (.int .i64 0 : Value)
    have s5 : CBlk _ q1 #[.int .u8 0, .int .i64 0, .int .i64 0, .int .i64 0, .int .i64 0, .int .i64 0, .int .i64 0, .int .u8 0, .slice none 0 0, .int .i64 0, .int .i64 0] := CBlk.set s4 5 (.int .i64 0 : Value)
    have s6 : CBlk _ q1 #[.int .u8 0, .int .i64 0, .int .i64 0, .int .i64 0, .int .i64 0, .int .i64 0, .int .i64 0, .int .u8 0, .slice none 0 0, .int .i64 0, .int .i64 0] := CBlk.set s5 6 (.int .i64 0 : Value)
    have s7 : CBlk _ q1 #[.int .u8 0, .int .i64 0, .int .i64 0, .int .i64 0, .int .i64 0, .int .i64 0, .int .i64 0, .int .u8 0, .slice none 0 0, .int .i64 0, .int .i64 0] := CBlk.set s6 7 (.int .u8 0 : Value)
    have s8 : CBlk _ q1 #[.int .u8 0, .int .i64 0, .int .i64 0, .int .i64 0, .int .i64 0, .int .i64 0, .int .i64 0, .int .u8 0, .slice none 0 0, .int .i64 0, .int .i64 0] := CBlk.set s7 8 (.slice none 0 0 : Value)
    have s9 : CBlk _ q1 #[.int .u8 0, .int .i64 0, .int .i64 0, .int .i64 0, .int .i64 0, .int .i64 0, .int .i64 0, .int .u8 0, .slice none 0 0, .int .i64 0, .int .i64 0] := CBlk.set s8 9 (.int .i64 0 : Value)
    have sA : CBlk _ q1 #[.int .u8 0, .int .i64 0, .int .i64 0, .int .i64 0, .int .i64 0, .int .i64 0, .int .i64 0, .int .u8 0, .slice none 0 0, .int .i64 0, .int .i64 0] := CBlk.set s9 10 (.int .i64 0 : Value)
    have hZ := sA
    clear s0 s1 s2 s3 s4 s5 s6 s7 s8 s9
    have x0 := hZ.cell 0 (.int .u8 0) rfl
    have x1 := hZ.cell 1 (.int .i64 0) rfl
    have x2 := hZ.cell 2 (.int .i64 0) rfl
    have x3 := hZ.cell 3 (.int .i64 0) rfl
    have x4 := hZ.cell 4 (.int .i64 0) rfl
    have x5 := hZ.cell 5 (.int .i64 0) rfl
    have x6 := hZ.cell 6 (.int .i64 0) rfl
    have x7 := hZ.cell 7 (.int .u8 0) rfl
    have x8 := hZ.cell 8 (.slice none 0 0) rfl
    have x9 := hZ.cell 9 (.int .i64 0) rfl
    have xA := hZ.cell 10 (.int .i64 0) rfl
    refine bodyPost_ret (v := .agg #[.int .u8 0, .int .i64 0, .int .i64 0, .int .i64 0, .int .i64 0, .int .i64 0, .int .i64 0, .int .u8 0, .slice none 0 0, .int .i64 0, .int .i64 0]) (by simp [results, Tryd.results23, go_sem, x0, x1, x2, x3, x4, x5, x6, x7, x8, x9, xA]) rfl ?_
    exact ⟨none, 0, by rw [HZC.out]; rfl, by rw [HZC.out]; exact (fun k hk => absurd hk (by simp [zeroCl])), (Below.setCell (Below.setCell (Below.setCell (Below.setCell (Below.setCell (Below.setCell (Below.setCell (Below.setCell (Below.setCell (Below.setCell (Below.setCell HB.out (p := ⟨q1, 0, none⟩) hb1 _) (p := ⟨q1, 1, none⟩) hb1 _) (p := ⟨q1, 2, none⟩) hb1 _) (p := ⟨q1, 3, none⟩) hb1 _) (p := ⟨q1, 4, none⟩) hb1 _) (p := ⟨q1, 5, none⟩) hb1 _) (p := ⟨q1, 6, none⟩) hb1 _) (p := ⟨q1, 7, none⟩) hb1 _) (p := ⟨q1, 8, none⟩) hb1 _) (p := ⟨q1, 9, none⟩) hb1 _) (p := ⟨q1, 10, none⟩) hb1 _)⟩
  case false =>
    have HNE := Lib.hid (show ¬ usesS c.kind = [] from fun h => by
      rw [ByteArray.toList_eq, ← HS.out, h] at dt
      simp at dt)
    have c0 := HX.out.cell 0 (.int .u8 c.kind) rfl
    have f0 := HO.out.fz 0
    have l0 := HO.out.lt
    have o0 := HO.out.cell 0 _ rfl
    go_upto_region 5 with fail
    have HO2 := Lib.hid (show CBlk (w4.setCell ⟨q2, 0, none⟩ (.int .u8 c.kind)) q2 #[.int .u8 c.kind, .int .i64 0, .int .i64 0, .int .i64 0, .int .i64 0, .int .i64 0, .int .i64 0, .int .u8 0, .slice none 0 0, .int .i64 0, .int .i64 0] from HO.out.set 0 _)
    have HX2 := Lib.hid (HX.out.other n20 0 (.int .u8 c.kind))
    have HRB2 := Lib.hid (HRB.out.other n21 0 (.int .u8 c.kind))
    have HB2 := Lib.hid (HB.out.setCell (p := ⟨q2, 0, none⟩) hb2 (.int .u8 c.kind))
    clear c0 f0 l0 o0 HO HX HRB HB HU dt
    generalize w4.setCell ⟨q2, 0, none⟩ (.int .u8 c.kind) = wk0 at *
    have c0 := HX2.out.cell 0 (.int .u8 c.kind) rfl
    have hh := rhas_any c.kind 99 wk0
    rw [show (((99 : UInt8).toNat : Nat) : Int) = 99 from rfl] at hh
    obtain ⟨b1, hb_b1⟩ : ∃ b, (usesS c.kind).contains 99 = b := ⟨_, rfl⟩
    rw [hb_b1] at hh
    have HQ_b1 := Lib.hid hb_b1
    have HH := Lib.hid hh
    clear hh hb_b1
    go_wp2_with fail
    refine HH.out.mono ?_
    rintro e wx1 ⟨rfl, rfl⟩
    clear HH
    go_upto_if 15 with fail
    obtain ⟨v1, hv1⟩ : ∃ v, v = pickI b1 c.comm := ⟨_, rfl⟩
    have HV1 := Lib.hid hv1
    clear hv1
    clear c0
    go_cut [] from 5 (fun wy => Hid (CBlk wy q2 #[.int .u8 c.kind, .int .i64 v1, .int .i64 0, .int .i64 0, .int .i64 0, .int .i64 0, .int .i64 0, .int .u8 0, .slice none 0 0, .int .i64 0, .int .i64 0]) ∧ Hid (CBlk wy w.heap.size (clCells c A cap)) ∧ Hid (CBlk wy q1 #[.int .u8 0, .int .i64 0, .int .i64 0, .int .i64 0, .int .i64 0, .int .i64 0, .int .i64 0, .int .u8 0, .slice none 0 0, .int .i64 0, .int .i64 0]) ∧ Hid (Below w.heap.size w wy))
    case first =>
      cases b1
      case false =>
        go_wp2_with fail
        go_meet
        case rel => exact ⟨Lib.hid (by rw [HV1.out]; exact HO2.out), HX2, HRB2, HB2⟩
      case true =>
        have c1 := HX2.out.cell 1 (.int .i64 c.comm) rfl
        have f1 := HO2.out.fz 1
        have o1 := HO2.out.cell 1 _ rfl
        have l0 := HO2.out.lt
        go_wp2_with fail
        go_meet
        case rel => exact ⟨Lib.hid (by rw [HV1.out]; exact (CBlk.set HO2.out 1 _)), Lib.hid (CBlk.other HX2.out n20 1 _), Lib.hid (CBlk.other HRB2.out n21 1 _), Lib.hid (Below.setCell HB2.out (p := ⟨q2, 1, none⟩) hb2 _)⟩
    case rest =>
      clear HO2 HX2 HRB2 HB2
      obtain ⟨HO11, HX11, HRB11, HB11⟩ := hcut
      rename World => wk1
      have c0 := HX11.out.cell 0 (.int .u8 c.kind) rfl
      have hh := rhas_any c.kind 112 wk1
      rw [show (((112 : UInt8).toNat : Nat) : Int) = 112 from rfl] at hh
      obtain ⟨b2, hb_b2⟩ : ∃ b, (usesS c.kind).contains 112 = b := ⟨_, rfl⟩
      rw [hb_b2] at hh
      have HQ_b2 := Lib.hid hb_b2
      have HH := Lib.hid hh
      clear hh hb_b2
      go_wp2_with fail
      refine HH.out.mono ?_
      rintro e wx2 ⟨rfl, rfl⟩
      clear HH
      go_upto_if 21 with fail
      obtain ⟨v2, hv2⟩ : ∃ v, v = pickI b2 c.peer := ⟨_, rfl⟩
      have HV2 := Lib.hid hv2
      clear hv2
      clear c0
      go_cut [] from 5 (fun wy => Hid (CBlk wy q2 #[.int .u8 c.kind, .int .i64 v1, .int .i64 v2, .int .i64 0, .int .i64 0, .int .i64 0, .int .i64 0, .int .u8 0, .slice none 0 0, .int .i64 0, .int .i64 0]) ∧ Hid (CBlk wy w.heap.size (clCells c A cap)) ∧ Hid (CBlk wy q1 #[.int .u8 0, .int .i64 0, .int .i64 0, .int .i64 0, .int .i64 0, .int .i64 0, .int .i64 0, .int .u8 0, .slice none 0 0, .int .i64 0, .int .i64 0]) ∧ Hid (Below w.heap.size w wy))
      case first =>
        cases b2
        case false =>
          go_wp2_with fail
          go_meet
          case rel => exact ⟨Lib.hid (by rw [HV2.out]; exact HO11.out), HX11, HRB11, HB11⟩
        case true =>
          have c2 := HX11.out.cell 2 (.int .i64 c.peer) rfl
          have f2 := HO11.out.fz 2
          have o2 := HO11.out.cell 2 _ rfl
          have l0 := HO11.out.lt
          go_wp2_with fail
          go_meet
          case rel => exact ⟨Lib.hid (by rw [HV2.out]; exact (CBlk.set HO11.out 2 _)), Lib.hid (CBlk.other HX11.out n20 2 _), Lib.hid (CBlk.other HRB11.out n21 2 _), Lib.hid (Below.setCell HB11.out (p := ⟨q2, 2, none⟩) hb2 _)⟩
      case rest =>
        clear HO11 HX11 HRB11 HB11
        obtain ⟨HO12, HX12, HRB12, HB12⟩ := hcut
        rename World => wk2
        have c0 := HX12.out.cell 0 (.int .u8 c.kind) rfl
        have hh := rhas_any c.kind 116 wk2
        rw [show (((116 : UInt8).toNat : Nat) : Int) = 116 from rfl] at hh
        obtain ⟨b3, hb_b3⟩ : ∃ b, (usesS c.kind).contains 116 = b := ⟨_, rfl⟩
        rw [hb_b3] at hh
        have HQ_b3 := Lib.hid hb_b3
        have HH := Lib.hid hh
        clear hh hb_b3
        go_wp2_with fail
        refine HH.out.mono ?_
        rintro e wx3 ⟨rfl, rfl⟩
        clear HH
        go_upto_if 27 with fail
        obtain ⟨v3, hv3⟩ : ∃ v, v = pickI b3 c.tag := ⟨_, rfl⟩
        have HV3 := Lib.hid hv3
        clear hv3
        clear c0
        go_cut [] from 5 (fun wy => Hid (CBlk wy q2 #[.int .u8 c.kind, .int .i64 v1, .int .i64 v2, .int .i64 v3, .int .i64 0, .int .i64 0, .int .i64 0, .int .u8 0, .slice none 0 0, .int .i64 0, .int .i64 0]) ∧ Hid (CBlk wy w.heap.size (clCells c A cap)) ∧ Hid (CBlk wy q1 #[.int .u8 0, .int .i64 0, .int .i64 0, .int .i64 0, .int .i64 0, .int .i64 0, .int .i64 0, .int .u8 0, .slice none 0 0, .int .i64 0, .int .i64 0]) ∧ Hid (Below w.heap.size w wy))
        case first =>
          cases b3
          case false =>
            go_wp2_with fail
            go_meet
            case rel => exact ⟨Lib.hid (by rw [HV3.out]; exact HO12.out), HX12, HRB12, HB12⟩
          case true =>
            have c3 := HX12.out.cell 3 (.int .i64 c.tag) rfl
            have f3 := HO12.out.fz 3
            have o3 := HO12.out.cell 3 _ rfl
            have l0 := HO12.out.lt
            go_wp2_with fail
            go_meet
            case rel => exact ⟨Lib.hid (by rw [HV3.out]; exact (CBlk.set HO12.out 3 _)), Lib.hid (CBlk.other HX12.out n20 3 _), Lib.hid (CBlk.other HRB12.out n21 3 _), Lib.hid (Below.setCell HB12.out (p := ⟨q2, 3, none⟩) hb2 _)⟩
        case rest =>
          clear HO12 HX12 HRB12 HB12
          obtain ⟨HO13, HX13, HRB13, HB13⟩ := hcut
          rename World => wk3
          have c0 := HX13.out.cell 0 (.int .u8 c.kind) rfl
          have hh := rhas_any c.kind 118 wk3
          rw [show (((118 : UInt8).toNat : Nat) : Int) = 118 from rfl] at hh
          obtain ⟨b4, hb_b4⟩ : ∃ b, (usesS c.kind).contains 118 = b := ⟨_, rfl⟩
          rw [hb_b4] at hh
          have HQ_b4 := Lib.hid hb_b4
          have HH := Lib.hid hh
          clear hh hb_b4
          go_wp2_with fail
          refine HH.out.mono ?_
          rintro e wx4 ⟨rfl, rfl⟩
          clear HH
          go_upto_if 33 with fail
          obtain ⟨v4, hv4⟩ : ∃ v, v = pickI b4 c.value := ⟨_, rfl⟩
          have HV4 := Lib.hid hv4
          clear hv4
          clear c0
          go_cut [] from 5 (fun wy => Hid (CBlk wy q2 #[.int .u8 c.kind, .int .i64 v1, .int .i64 v2, .int .i64 v3, .int .i64 v4, .int .i64 0, .int .i64 0, .int .u8 0, .slice none 0 0, .int .i64 0, .int .i64 0]) ∧ Hid (CBlk wy w.heap.size (clCells c A cap)) ∧ Hid (CBlk wy q1 #[.int .u8 0, .int .i64 0, .int .i64 0, .int .i64 0, .int .i64 0, .int .i64 0, .int .i64 0, .int .u8 0, .slice none 0 0, .int .i64 0, .int .i64 0]) ∧ Hid (Below w.heap.size w wy))
          case first =>
            cases b4
            case false =>
              go_wp2_with fail
              go_meet
              case rel => exact ⟨Lib.hid (by rw [HV4.out]; exact HO13.out), HX13, HRB13, HB13⟩
            case true =>
              have c4 := HX13.out.cell 4 (.int .i64 c.value) rfl
              have f4 := HO13.out.fz 4
              have o4 := HO13.out.cell 4 _ rfl
              have l0 := HO13.out.lt
              go_wp2_with fail
              go_meet
              case rel => exact ⟨Lib.hid (by rw [HV4.out]; exact (CBlk.set HO13.out 4 _)), Lib.hid (CBlk.other HX13.out n20 4 _), Lib.hid (CBlk.other HRB13.out n21 4 _), Lib.hid (Below.setCell HB13.out (p := ⟨q2, 4, none⟩) hb2 _)⟩
          case rest =>
            clear HO13 HX13 HRB13 HB13
            obtain ⟨HO14, HX14, HRB14, HB14⟩ := hcut
            rename World => wk4
            have c0 := HX14.out.cell 0 (.int .u8 c.kind) rfl
            have hh := rhas_any c.kind 115 wk4
            rw [show (((115 : UInt8).toNat : Nat) : Int) = 115 from rfl] at hh
            obtain ⟨b5, hb_b5⟩ : ∃ b, (usesS c.kind).contains 115 = b := ⟨_, rfl⟩
            rw [hb_b5] at hh
            have HQ_b5 := Lib.hid hb_b5
            have HH := Lib.hid hh
            clear hh hb_b5
            go_wp2_with fail
            refine HH.out.mono ?_
            rintro e wx5 ⟨rfl, rfl⟩
            clear HH
            go_upto_if 39 with fail
            obtain ⟨v5, hv5⟩ : ∃ v, v = pickI b5 c.size := ⟨_, rfl⟩
            have HV5 := Lib.hid hv5
            clear hv5
            clear c0
            go_cut [] from 5 (fun wy => Hid (CBlk wy q2 #[.int .u8 c.kind, .int .i64 v1, .int .i64 v2, .int .i64 v3, .int .i64 v4, .int .i64 v5, .int .i64 0, .int .u8 0, .slice none 0 0, .int .i64 0, .int .i64 0]) ∧ Hid (CBlk wy w.heap.size (clCells c A cap)) ∧ Hid (CBlk wy q1 #[.int .u8 0, .int .i64 0, .int .i64 0, .int .i64 0, .int .i64 0, .int .i64 0, .int .i64 0, .int .u8 0, .slice none 0 0, .int .i64 0, .int .i64 0]) ∧ Hid (Below w.heap.size w wy))
            case first =>
              cases b5
              case false =>
                go_wp2_with fail
                go_meet
                case rel => exact ⟨Lib.hid (by rw [HV5.out]; exact HO14.out), HX14, HRB14, HB14⟩
              case true =>
                have c5 := HX14.out.cell 5 (.int .i64 c.size) rfl
                have f5 := HO14.out.fz 5
                have o5 := HO14.out.cell 5 _ rfl
                have l0 := HO14.out.lt
                go_wp2_with fail
                go_meet
                case rel => exact ⟨Lib.hid (by rw [HV5.out]; exact (CBlk.set HO14.out 5 _)), Lib.hid (CBlk.other HX14.out n20 5 _), Lib.hid (CBlk.other HRB14.out n21 5 _), Lib.hid (Below.setCell HB14.out (p := ⟨q2, 5, none⟩) hb2 _)⟩
            case rest =>
              clear HO14 HX14 HRB14 HB14
              obtain ⟨HO15, HX15, HRB15, HB15⟩ := hcut
              rename World => wk5
              have c0 := HX15.out.cell 0 (.int .u8 c.kind) rfl
              have hh := rhas_any c.kind 114 wk5
              rw [show (((114 : UInt8).toNat : Nat) : Int) = 114 from rfl] at hh
              obtain ⟨b6, hb_b6⟩ : ∃ b, (usesS c.kind).contains 114 = b := ⟨_, rfl⟩
              rw [hb_b6] at hh
              have HQ_b6 := Lib.hid hb_b6
              have HH := Lib.hid hh
              clear hh hb_b6
              go_wp2_with fail
              refine HH.out.mono ?_
              rintro e wx6 ⟨rfl, rfl⟩
              clear HH
              go_upto_if 45 with fail
              obtain ⟨v6, hv6⟩ : ∃ v, v = pickI b6 c.root := ⟨_, rfl⟩
              have HV6 := Lib.hid hv6
              clear hv6
              clear c0
              go_cut [] from 5 (fun wy => Hid (CBlk wy q2 #[.int .u8 c.kind, .int .i64 v1, .int .i64 v2, .int .i64 v3, .int .i64 v4, .int .i64 v5, .int .i64 v6, .int .u8 0, .slice none 0 0, .int .i64 0, .int .i64 0]) ∧ Hid (CBlk wy w.heap.size (clCells c A cap)) ∧ Hid (CBlk wy q1 #[.int .u8 0, .int .i64 0, .int .i64 0, .int .i64 0, .int .i64 0, .int .i64 0, .int .i64 0, .int .u8 0, .slice none 0 0, .int .i64 0, .int .i64 0]) ∧ Hid (Below w.heap.size w wy))
              case first =>
                cases b6
                case false =>
                  go_wp2_with fail
                  go_meet
                  case rel => exact ⟨Lib.hid (by rw [HV6.out]; exact HO15.out), HX15, HRB15, HB15⟩
                case true =>
                  have c6 := HX15.out.cell 6 (.int .i64 c.root) rfl
                  have f6 := HO15.out.fz 6
                  have o6 := HO15.out.cell 6 _ rfl
                  have l0 := HO15.out.lt
                  go_wp2_with fail
                  go_meet
                  case rel => exact ⟨Lib.hid (by rw [HV6.out]; exact (CBlk.set HO15.out 6 _)), Lib.hid (CBlk.other HX15.out n20 6 _), Lib.hid (CBlk.other HRB15.out n21 6 _), Lib.hid (Below.setCell HB15.out (p := ⟨q2, 6, none⟩) hb2 _)⟩
              case rest =>
                clear HO15 HX15 HRB15 HB15
                obtain ⟨HO16, HX16, HRB16, HB16⟩ := hcut
                rename World => wk6
                have c0 := HX16.out.cell 0 (.int .u8 c.kind) rfl
                have hh := rhas_any c.kind 111 wk6
                rw [show (((111 : UInt8).toNat : Nat) : Int) = 111 from rfl] at hh
                obtain ⟨b7, hb_b7⟩ : ∃ b, (usesS c.kind).contains 111 = b := ⟨_, rfl⟩
                rw [hb_b7] at hh
                have HQ_b7 := Lib.hid hb_b7
                have HH := Lib.hid hh
                clear hh hb_b7
                go_wp2_with fail
                refine HH.out.mono ?_
                rintro e wx7 ⟨rfl, rfl⟩
                clear HH
                go_upto_if 51 with fail
                obtain ⟨v7, hv7⟩ : ∃ v, v = pickI b7 c.op := ⟨_, rfl⟩
                have HV7 := Lib.hid hv7
                clear hv7
                clear c0
                go_cut [] from 5 (fun wy => Hid (CBlk wy q2 #[.int .u8 c.kind, .int .i64 v1, .int .i64 v2, .int .i64 v3, .int .i64 v4, .int .i64 v5, .int .i64 v6, .int .u8 v7, .slice none 0 0, .int .i64 0, .int .i64 0]) ∧ Hid (CBlk wy w.heap.size (clCells c A cap)) ∧ Hid (CBlk wy q1 #[.int .u8 0, .int .i64 0, .int .i64 0, .int .i64 0, .int .i64 0, .int .i64 0, .int .i64 0, .int .u8 0, .slice none 0 0, .int .i64 0, .int .i64 0]) ∧ Hid (Below w.heap.size w wy))
                case first =>
                  cases b7
                  case false =>
                    go_wp2_with fail
                    go_meet
                    case rel => exact ⟨Lib.hid (by rw [HV7.out]; exact HO16.out), HX16, HRB16, HB16⟩
                  case true =>
                    have c7 := HX16.out.cell 7 (.int .u8 c.op) rfl
                    have f7 := HO16.out.fz 7
                    have o7 := HO16.out.cell 7 _ rfl
                    have l0 := HO16.out.lt
                    go_wp2_with fail
                    go_meet
                    case rel => exact ⟨Lib.hid (by rw [HV7.out]; exact (CBlk.set HO16.out 7 _)), Lib.hid (CBlk.other HX16.out n20 7 _), Lib.hid (CBlk.other HRB16.out n21 7 _), Lib.hid (Below.setCell HB16.out (p := ⟨q2, 7, none⟩) hb2 _)⟩
                case rest =>
                  clear HO16 HX16 HRB16 HB16
                  obtain ⟨HO17, HX17, HRB17, HB17⟩ := hcut
                  rename World => wk7
                  have c0 := HX17.out.cell 0 (.int .u8 c.kind) rfl
                  have hh := rhas_any c.kind 108 wk7
                  rw [show (((108 : UInt8).toNat : Nat) : Int) = 108 from rfl] at hh
                  obtain ⟨b8, hb_b8⟩ : ∃ b, (usesS c.kind).contains 108 = b := ⟨_, rfl⟩
                  rw [hb_b8] at hh
                  have HQ_b8 := Lib.hid hb_b8
                  have HH := Lib.hid hh
                  clear hh hb_b8
                  go_wp2_with fail
                  refine HH.out.mono ?_
                  rintro e wx8 ⟨rfl, rfl⟩
                  clear HH
                  go_upto_if 57 with fail
                  clear c0
                  go_cut [] from 5 (fun wy => ∃ (B : Option Addr) (cb : Nat), Hid (CBlk wy q2 #[.int .u8 c.kind, .int .i64 v1, .int .i64 v2, .int .i64 v3, .int .i64 v4, .int .i64 v5, .int .i64 v6, .int .u8 v7, .slice B (pickL b8 c.reqs).length cb, .int .i64 0, .int .i64 0]) ∧ Hid (IntApart wy B (pickL b8 c.reqs) q1 q2) ∧ Hid (CBlk wy w.heap.size (clCells c A cap)) ∧ Hid (CBlk wy q1 #[.int .u8 0, .int .i64 0, .int .i64 0, .int .i64 0, .int .i64 0, .int .i64 0, .int .i64 0, .int .u8 0, .slice none 0 0, .int .i64 0, .int .i64 0]) ∧ Hid (Below w.heap.size w wy))
                  case first =>
                    cases b8
                    case false =>
                      go_wp2_with fail
                      go_meet
                      case rel => exact ⟨none, 0, HO17, Lib.hid ⟨fun k hk => absurd hk (by simp [pickL]), fun a ha => by cases ha⟩, HX17, HRB17, HB17⟩
                    case true =>
                      have c8 := HX17.out.cell 8 (.slice A c.reqs.length cap) rfl
                      have HCI := Lib.hid (intRow_cells (HR0.out.below HB17.out))
                      have HM := Lib.hid (show c.reqs.length ≤ maxLen by unfold maxLen; omega)
                      have HM2 := Lib.hid (show c.reqs.length * 8 ≤ 140737488355328 by omega)
                      have HO1 := Lib.hid (show ∀ u ∈ c.reqs.map (Value.int .i64), u.oneCell' = true by intro u hu; obtain ⟨y, _, rfl⟩ := List.mem_map.1 hu; rfl)
                      go_wp2_with (at_builtin; refine wpList_append_nil_copy _ rfl (.tmp 58) (.tmp 60) 27 rfl 3 i1 _ 1 8 Tryd.underlying27 H1.out.1 H1.out.2.1 H1.out.2.2.1 H1.out.2.2.2 rfl (by decide) A c.reqs.length cap (c.reqs.map (Value.int .i64)) rfl rfl (by simp) HCI.out HO1.out HM.out HM2.out ?_)
                      intro vv wv hown hgr
                      obtain ⟨B, cb, rfl, _, _, _, _⟩ := own_shape hown
                      have hbv : Below wx8.heap.size wx8 wv := ⟨hgr.os, hgr.tape, hgr.output, hgr.size, fun k hk => hgr.block k hk (by simp)⟩
                      have HO9 := Lib.hid (HO17.out.below hbv)
                      have HX9 := Lib.hid (HX17.out.below hbv)
                      have HRB9 := Lib.hid (HRB17.out.below hbv)
                      have HB9 := Lib.hid (HB17.out.trans (hbv.mono HB17.out.size))
                      have HN1 := own_ne_blk hown HRB9.out (by decide)
                      have HN2 := own_ne_blk hown HO9.out (by decide)
                      have HI9 := Lib.hid (IntApart.set (w := wv) (q1 := q1) (q2 := q2) ⟨intRow_of_own hown, fun a ha => by subst ha; exact ⟨fun e => HN1 (by simp [Value.ownBlock, e]), fun e => HN2 (by simp [Value.ownBlock, e])⟩⟩ ⟨q2, 8, none⟩ (Or.inr rfl) (.slice B c.reqs.length cb))
                      clear HN1 HN2
                      have f8 := HO9.out.fz 8
                      have o8 := HO9.out.cell 8 _ rfl
                      have l0 := HO9.out.lt
                      clear hbv hgr hown HCI HM HM2 HO1 c8
                      go_wp2_with fail
                      go_meet
                      case rel => exact ⟨B, cb, Lib.hid (HO9.out.set 8 _), HI9, Lib.hid (HX9.out.other n20 8 _), Lib.hid (HRB9.out.other n21 8 _), Lib.hid (HB9.out.setCell (p := ⟨q2, 8, none⟩) hb2 _)⟩
                  case rest =>
                    clear HO17 HX17 HRB17 HB17
                    obtain ⟨B, cb, HO18, HBI, HX18, HRB18, HB18⟩ := hcut
                    rename World => wk8
                    have c0 := HX18.out.cell 0 (.int .u8 c.kind) rfl
                    have hh := rhas_any c.kind 107 wk8
                    rw [show (((107 : UInt8).toNat : Nat) : Int) = 107 from rfl] at hh
                    obtain ⟨b9, hb_b9⟩ : ∃ b, (usesS c.kind).contains 107 = b := ⟨_, rfl⟩
                    rw [hb_b9] at hh
                    have HQ_b9 := Lib.hid hb_b9
                    have HH := Lib.hid hh
                    clear hh hb_b9
                    go_wp2_with fail
                    refine HH.out.mono ?_
                    rintro e wx9 ⟨rfl, rfl⟩
                    clear HH
                    go_upto_if 65 with fail
                    obtain ⟨v9, hv9⟩ : ∃ v, v = pickI b9 c.color := ⟨_, rfl⟩
                    have HV9 := Lib.hid hv9
                    clear hv9
                    obtain ⟨v10, hv10⟩ : ∃ v, v = pickI b9 c.key := ⟨_, rfl⟩
                    have HV10 := Lib.hid hv10
                    clear hv10
                    clear c0
                    go_cut [] from 5 (fun wy => Hid (CBlk wy q2 #[.int .u8 c.kind, .int .i64 v1, .int .i64 v2, .int .i64 v3, .int .i64 v4, .int .i64 v5, .int .i64 v6, .int .u8 v7, .slice B (pickL b8 c.reqs).length cb, .int .i64 v9, .int .i64 v10]) ∧ Hid (CBlk wy w.heap.size (clCells c A cap)) ∧ Hid (CBlk wy q1 #[.int .u8 0, .int .i64 0, .int .i64 0, .int .i64 0, .int .i64 0, .int .i64 0, .int .i64 0, .int .u8 0, .slice none 0 0, .int .i64 0, .int .i64 0]) ∧ Hid (Below w.heap.size w wy) ∧ Hid (IntApart wy B (pickL b8 c.reqs) q1 q2))
                    case first =>
                      cases b9
                      case false =>
                        go_wp2_with fail
                        go_meet
                        case rel => exact ⟨Lib.hid (by rw [HV9.out, HV10.out]; exact HO18.out), HX18, HRB18, HB18, HBI⟩
                      case true =>
                        have c9 := HX18.out.cell 9 (.int .i64 c.color) rfl
                        have f9 := HO18.out.fz 9
                        have o9 := HO18.out.cell 9 _ rfl
                        have c10 := HX18.out.cell 10 (.int .i64 c.key) rfl
                        have f10 := HO18.out.fz 10
                        have o10 := HO18.out.cell 10 _ rfl
                        have l0 := HO18.out.lt
                        go_wp2_with fail
                        go_meet
                        case rel => exact ⟨Lib.hid (by rw [HV9.out, HV10.out]; exact (CBlk.set (CBlk.set HO18.out 9 _) 10 _)), Lib.hid (CBlk.other (CBlk.other HX18.out n20 9 _) n20 10 _), Lib.hid (CBlk.other (CBlk.other HRB18.out n21 9 _) n21 10 _), Lib.hid (Below.setCell (Below.setCell HB18.out (p := ⟨q2, 9, none⟩) hb2 _) (p := ⟨q2, 10, none⟩) hb2 _), Lib.hid (IntApart.set (IntApart.set HBI.out ⟨q2, 9, none⟩ (Or.inr rfl) _) ⟨q2, 10, none⟩ (Or.inr rfl) _)⟩
                    case rest =>
                      clear HO18 HX18 HRB18 HB18 HBI
                      obtain ⟨HO19, HX19, HRB19, HB19, HBI⟩ := hcut
                      rename World => wk9
                      have HEQ := Lib.hid (show rtrim c = ⟨c.kind, v1, v2, v3, v4, v5, v6, v7, pickL b8 c.reqs, v9, v10⟩ by
                        unfold rtrim
                        rw [if_neg HNE.out]
                        simp only [HQ_b1.out, HQ_b2.out, HQ_b3.out, HQ_b4.out, HQ_b5.out, HQ_b6.out, HQ_b7.out, HQ_b8.out, HQ_b9.out, HV1.out, HV2.out, HV3.out, HV4.out, HV5.out, HV6.out, HV7.out, HV9.out, HV10.out])
                      have o0 := HO19.out.cell 0 (.int .u8 c.kind) rfl
                      have o1 := HO19.out.cell 1 (.int .i64 v1) rfl
                      have o2 := HO19.out.cell 2 (.int .i64 v2) rfl
                      have o3 := HO19.out.cell 3 (.int .i64 v3) rfl
                      have o4 := HO19.out.cell 4 (.int .i64 v4) rfl
                      have o5 := HO19.out.cell 5 (.int .i64 v5) rfl
                      have o6 := HO19.out.cell 6 (.int .i64 v6) rfl
                      have o7 := HO19.out.cell 7 (.int .u8 v7) rfl
                      have o8 := HO19.out.cell 8 (.slice B (pickL b8 c.reqs).length cb) rfl
                      have o9 := HO19.out.cell 9 (.int .i64 v9) rfl
                      have oA := HO19.out.cell 10 (.int .i64 v10) rfl
                      have f0 := HRB19.out.fz 0
                      have f1 := HRB19.out.fz 1
                      have f2 := HRB19.out.fz 2
                      have f3 := HRB19.out.fz 3
                      have f4 := HRB19.out.fz 4
                      have f5 := HRB19.out.fz 5
                      have f6 := HRB19.out.fz 6
                      have f7 := HRB19.out.fz 7
                      have f8 := HRB19.out.fz 8
                      have f9 := HRB19.out.fz 9
                      have fA := HRB19.out.fz 10
                      have rl := HRB19.out.lt
                      have r0 := HRB19.out.cell 0 _ rfl
                      have r1 := HRB19.out.cell 1 _ rfl
                      have r2 := HRB19.out.cell 2 _ rfl
                      have r3 := HRB19.out.cell 3 _ rfl
                      have r4 := HRB19.out.cell 4 _ rfl
                      have r5 := HRB19.out.cell 5 _ rfl
                      have r6 := HRB19.out.cell 6 _ rfl
                      have r7 := HRB19.out.cell 7 _ rfl
                      have r8 := HRB19.out.cell 8 _ rfl
                      have r9 := HRB19.out.cell 9 _ rfl
                      have rA := HRB19.out.cell 10 _ rfl
                      go_wp2_with fail
                      have s0 : CBlk _ q1 #[.int .u8 c.kind, .int .i64 0, .int .i64 0, .int .i64 0, .int .i64 0, .int .i64 0, .int .i64 0, .int .u8 0, .slice none 0 0, .int .i64 0, .int .i64 0] := CBlk.set HRB19.out 0 (.int .u8 c.kind : Value)
                      have s1 : CBlk _ q1 #[.int .u8 c.kind, .int .i64 v1, .int .i64 0, .int .i64 0, .int .i64 0, .int .i64 0, .int .i64 0, .int .u8 0, .slice none 0 0, .int .i64 0, .int .i64 0] := CBlk.set s0 1 (.int .i64 v1 : Value)
                      have s2 : CBlk _ q1 #[.int .u8 c.kind, .int .i64 v1, .int .i64 v2, .int .i64 0, .int .i64 0, .int .i64 0, .int .i64 0, .int .u8 0, .slice none 0 0, .int .i64 0, .int .i64 0] := CBlk.set s1 2 (.int .i64 v2 : Value)
                      have s3 : CBlk _ q1 #[.int .u8 c.kind, .int .i64 v1, .int .i64 v2, .int .i64 v3, .int .i64 0, .int .i64 0, .int .i64 0, .int .u8 0, .slice none 0 0, .int .i64 0, .int .i64 0] := CBlk.set s2 3 (.int .i64 v3 : Value)
                      have s4 : CBlk _ q1 #[.int .u8 c.kind, .int .i64 v1, .int .i64 v2, .int .i64 v3, .int .i64 v4, .int .i64 0, .int .i64 0, .int .u8 0, .slice none 0 0, .int .i64 0, .int .i64 0] := CBlk.set s3 4 (.int .i64 v4 : Value)
                      have s5 : CBlk _ q1 #[.int .u8 c.kind, .int .i64 v1, .int .i64 v2, .int .i64 v3, .int .i64 v4, .int .i64 v5, .int .i64 0, .int .u8 0, .slice none 0 0, .int .i64 0, .int .i64 0] := CBlk.set s4 5 (.int .i64 v5 : Value)
                      have s6 : CBlk _ q1 #[.int .u8 c.kind, .int .i64 v1, .int .i64 v2, .int .i64 v3, .int .i64 v4, .int .i64 v5, .int .i64 v6, .int .u8 0, .slice none 0 0, .int .i64 0, .int .i64 0] := CBlk.set s5 6 (.int .i64 v6 : Value)
                      have s7 : CBlk _ q1 #[.int .u8 c.kind, .int .i64 v1, .int .i64 v2, .int .i64 v3, .int .i64 v4, .int .i64 v5, .int .i64 v6, .int .u8 v7, .slice none 0 0, .int .i64 0, .int .i64 0] := CBlk.set s6 7 (.int .u8 v7 : Value)
                      have s8 : CBlk _ q1 #[.int .u8 c.kind, .int .i64 v1, .int .i64 v2, .int .i64 v3, .int .i64 v4, .int .i64 v5, .int .i64 v6, .int .u8 v7, .slice B (pickL b8 c.reqs).length cb, .int .i64 0, .int .i64 0] := CBlk.set s7 8 (.slice B (pickL b8 c.reqs).length cb : Value)
                      have s9 : CBlk _ q1 #[.int .u8 c.kind, .int .i64 v1, .int .i64 v2, .int .i64 v3, .int .i64 v4, .int .i64 v5, .int .i64 v6, .int .u8 v7, .slice B (pickL b8 c.reqs).length cb, .int .i64 v9, .int .i64 0] := CBlk.set s8 9 (.int .i64 v9 : Value)
                      have sA : CBlk _ q1 #[.int .u8 c.kind, .int .i64 v1, .int .i64 v2, .int .i64 v3, .int .i64 v4, .int .i64 v5, .int .i64 v6, .int .u8 v7, .slice B (pickL b8 c.reqs).length cb, .int .i64 v9, .int .i64 v10] := CBlk.set s9 10 (.int .i64 v10 : Value)
                      have hZ := sA
                      clear s0 s1 s2 s3 s4 s5 s6 s7 s8 s9
                      have x0 := hZ.cell 0 (.int .u8 c.kind) rfl
                      have x1 := hZ.cell 1 (.int .i64 v1) rfl
                      have x2 := hZ.cell 2 (.int .i64 v2) rfl
                      have x3 := hZ.cell 3 (.int .i64 v3) rfl
                      have x4 := hZ.cell 4 (.int .i64 v4) rfl
                      have x5 := hZ.cell 5 (.int .i64 v5) rfl
                      have x6 := hZ.cell 6 (.int .i64 v6) rfl
                      have x7 := hZ.cell 7 (.int .u8 v7) rfl
                      have x8 := hZ.cell 8 (.slice B (pickL b8 c.reqs).length cb) rfl
                      have x9 := hZ.cell 9 (.int .i64 v9) rfl
                      have xA := hZ.cell 10 (.int .i64 v10) rfl
                      refine bodyPost_ret (v := .agg #[.int .u8 c.kind, .int .i64 v1, .int .i64 v2, .int .i64 v3, .int .i64 v4, .int .i64 v5, .int .i64 v6, .int .u8 v7, .slice B (pickL b8 c.reqs).length cb, .int .i64 v9, .int .i64 v10]) (by simp [results, Tryd.results23, go_sem, x0, x1, x2, x3, x4, x5, x6, x7, x8, x9, xA]) rfl ?_
                      exact ⟨B, cb, by rw [HEQ.out], by rw [HEQ.out]; exact ((IntApart.set (IntApart.set (IntApart.set (IntApart.set (IntApart.set (IntApart.set (IntApart.set (IntApart.set (IntApart.set (IntApart.set (IntApart.set HBI.out ⟨q1, 0, none⟩ (Or.inl rfl) _) ⟨q1, 1, none⟩ (Or.inl rfl) _) ⟨q1, 2, none⟩ (Or.inl rfl) _) ⟨q1, 3, none⟩ (Or.inl rfl) _) ⟨q1, 4, none⟩ (Or.inl rfl) _) ⟨q1, 5, none⟩ (Or.inl rfl) _) ⟨q1, 6, none⟩ (Or.inl rfl) _) ⟨q1, 7, none⟩ (Or.inl rfl) _) ⟨q1, 8, none⟩ (Or.inl rfl) _) ⟨q1, 9, none⟩ (Or.inl rfl) _) ⟨q1, 10, none⟩ (Or.inl rfl) _)).1, (Below.setCell (Below.setCell (Below.setCell (Below.setCell (Below.setCell (Below.setCell (Below.setCell (Below.setCell (Below.setCell (Below.setCell (Below.setCell HB19.out (p := ⟨q1, 0, none⟩) hb1 _) (p := ⟨q1, 1, none⟩) hb1 _) (p := ⟨q1, 2, none⟩) hb1 _) (p := ⟨q1, 3, none⟩) hb1 _) (p := ⟨q1, 4, none⟩) hb1 _) (p := ⟨q1, 5, none⟩) hb1 _) (p := ⟨q1, 6, none⟩) hb1 _) (p := ⟨q1, 7, none⟩) hb1 _) (p := ⟨q1, 8, none⟩) hb1 _) (p := ⟨q1, 9, none⟩) hb1 _) (p := ⟨q1, 10, none⟩) hb1 _)⟩
end Go.Proofs.YtgphigpbgiceiaaDoor
