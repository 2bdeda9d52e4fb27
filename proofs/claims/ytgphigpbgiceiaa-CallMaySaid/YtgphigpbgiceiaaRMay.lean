/- The walk of dispatcherref16.May. -/
import Derived.Test.YtgphigpbgiceiaaRUses
import Derived.Test.YtgphigpbgiceiaaRGrp
import Derived.Test.YtgphigpbgiceiaaClLook
namespace Go.Proofs.Ytgphigpbgiceiaa
open Go.RowKit Go.Sort
set_option linter.unusedVariables false
set_option linter.unusedSimpArgs false

theorem okReqs_bad (l : List Int) (k : Nat) (hk : k < l.length) (h : l[k] < 0 ∨ 255 < l[k] ∨ l[k] ∈ l.take k) : okReqs l = false := by
  cases hg : okReqs l with
  | false => rfl
  | true =>
    unfold okReqs at hg
    simp only [Bool.and_eq_true, List.all_eq_true, decide_eq_true_iff] at hg
    obtain ⟨h1, h2⟩ := hg
    have h4 := h1 _ (List.getElem_mem hk)
    rcases h with h | h | h
    · omega
    · omega
    · obtain ⟨i, hi, he⟩ := List.getElem_of_mem h
      rw [List.length_take] at hi
      have := (List.pairwise_iff_getElem.1 h2) i k (by omega) hk (by omega)
      rw [List.getElem_take] at he
      exact absurd he this
def OkReq (l : List Int) (k : Nat) : Prop := (∀ x ∈ l.take k, 0 ≤ x ∧ x ≤ 255) ∧ (l.take k).Nodup
theorem okReq_succ {l : List Int} {k : Nat} (h : OkReq l k) (hk : k < l.length) (h1 : 0 ≤ l[k]) (h2 : l[k] ≤ 255) (h3 : l[k] ∉ l.take k) : OkReq l (k + 1) := by
  have e : l.take (k + 1) = l.take k ++ [l[k]] := List.take_succ_eq_append_getElem hk
  unfold OkReq
  rw [e]
  refine ⟨fun x hx => ?_, ?_⟩
  · rcases List.mem_append.1 hx with hx | hx
    · exact h.1 x hx
    · simp at hx
      subst hx
      exact ⟨h1, h2⟩
  · rw [List.nodup_append]
    refine ⟨h.2, by simp, fun a ha b hb => ?_⟩
    simp at hb
    subst hb
    exact fun e => h3 (e ▸ ha)
theorem okReqs_good (l : List Int) (h : OkReq l l.length) : okReqs l = true := by
  unfold OkReq at h
  rw [List.take_length] at h
  unfold okReqs
  rw [decide_eq_true h.2, Bool.and_true, List.all_eq_true]
  intro x hx
  simpa using h.1 x hx
set_option maxHeartbeats 32000000 in
set_option maxRecDepth 100000 in
theorem rmay_a (c : Cl) (A : Option Addr) (cap : Nat) (s : ByteArray) (G : Option Addr) (gc : Nat) (gl : List Int) (w : World) (hR : IntRow w A c.reqs) (hl : c.reqs.length ≤ 1000) (hop : 0 ≤ c.op ∧ c.op ≤ 255) (hG : IntRow w G gl) (hgl : gl.length ≤ 1000) (hS : usesS c.kind = [99, 112, 116, 118, 115]) (hM : mayB c gl (usesF c.kind) = (groupB gl && (inB c.comm 0 31 && inB c.peer 0 ((gl.length : Int) - 1) && inB c.tag 0 32767 && true && inB c.size 1 64))) :
    Calls Try.prog 8 #[.agg (clCells c A cap), .agg #[.string s, .slice G gl.length gc]] w fun e w' => e = .returned (.bool (mayB c gl (usesF c.kind))) ∧ Below w.heap.size w w' := by
  have e1 : Below w.heap.size w (w.alloc (.cells (clCells c A cap) 24)) := (Below.refl _ _).alloc (Nat.le_refl _) _
  have f1 : ClBlk (w.alloc (.cells (clCells c A cap) 24)) w.heap.size c A cap := ClBlk.new
  obtain ⟨w1, hw1⟩ : ∃ y, y = w.alloc (.cells (clCells c A cap) 24) := ⟨_, rfl⟩
  rw [← hw1] at e1 f1
  have z1 : w1.heap.size = w.heap.size + 1 := by rw [hw1]; simp
  obtain ⟨w2, hw2⟩ : ∃ y, y = w1.alloc (.cells #[.string s, .slice G gl.length gc] 26) := ⟨_, rfl⟩
  have e2 : Below w1.heap.size w1 w2 := by rw [hw2]; exact (Below.refl _ _).alloc (Nat.le_refl _) _
  have f2 : BlkT w2 w1.heap.size 26 #[.string s, .slice G gl.length gc] := by rw [hw2]; exact heap_alloc_new _ _
  have HB := Lib.hid (e1.trans (e2.mono e1.size))
  have hX := f1.below e2
  have g0 := hX.at.g0
  have HX := Lib.hid hX
  rw [z1] at f2
  have HGB := Lib.hid f2
  have b0 := f2.cell 0 _ rfl
  have b1 := f2.cell 1 _ rfl
  have HR := Lib.hid (hR.below HB.out)
  have HCG := Lib.hid (rgroup_any s G gc gl w2 (hG.below HB.out) hgl)
  have HU := Lib.hid (fun w => ruses_any c.kind w)
  rw [hS] at HU
  obtain ⟨u, hu⟩ : ∃ u : ByteArray, (⟨([99, 112, 116, 118, 115] : List UInt8).toArray⟩ : ByteArray) = u := ⟨_, rfl⟩
  rw [hu] at HU
  have dt : (u.toList == []) = false := by rw [← hu, ByteArray.toList_eq]; rfl
  have dt3 : (u.toList == [99, 112, 116]) = false := by rw [← hu, ByteArray.toList_eq]; rfl
  have HM := Lib.hid hM
  have HOP := Lib.hid hop
  have hc := fun w => rhas_any c.kind 99 w
  simp only [show (((99 : UInt8).toNat : Nat) : Int) = 99 from rfl, hS, show (([99, 112, 116, 118, 115] : List UInt8).contains 99) = true from rfl] at hc
  have HHc := Lib.hid hc
  clear hc
  have hp := fun w => rhas_any c.kind 112 w
  simp only [show (((112 : UInt8).toNat : Nat) : Int) = 112 from rfl, hS, show (([99, 112, 116, 118, 115] : List UInt8).contains 112) = true from rfl] at hp
  have HHp := Lib.hid hp
  clear hp
  have ht := fun w => rhas_any c.kind 116 w
  simp only [show (((116 : UInt8).toNat : Nat) : Int) = 116 from rfl, hS, show (([99, 112, 116, 118, 115] : List UInt8).contains 116) = true from rfl] at ht
  have HHt := Lib.hid ht
  clear ht
  have hs := fun w => rhas_any c.kind 115 w
  simp only [show (((115 : UInt8).toNat : Nat) : Int) = 115 from rfl, hS, show (([99, 112, 116, 118, 115] : List UInt8).contains 115) = true from rfl] at hs
  have HHs := Lib.hid hs
  clear hs
  have hr := fun w => rhas_any c.kind 114 w
  simp only [show (((114 : UInt8).toNat : Nat) : Int) = 114 from rfl, hS, show (([99, 112, 116, 118, 115] : List UInt8).contains 114) = false from rfl] at hr
  have HHr := Lib.hid hr
  clear hr
  have ho := fun w => rhas_any c.kind 111 w
  simp only [show (((111 : UInt8).toNat : Nat) : Int) = 111 from rfl, hS, show (([99, 112, 116, 118, 115] : List UInt8).contains 111) = false from rfl] at ho
  have HHo := Lib.hid ho
  clear ho
  have hl := fun w => rhas_any c.kind 108 w
  simp only [show (((108 : UInt8).toNat : Nat) : Int) = 108 from rfl, hS, show (([99, 112, 116, 118, 115] : List UInt8).contains 108) = false from rfl] at hl
  have HHl := Lib.hid hl
  clear hl
  clear hu hS hM hop
  go_enter Try.func8, Try.ntmps8
  go_upto_region 1 with fail
  rw [← hw1, ← hw2]
  clear hw1 hw2 e1 e2 f1 f2 z1 hR hG hX
  generalize w.heap.size + 1 = q1 at *
  go_wp2_with fail
  refine (HU.out _).mono ?_
  rintro e w2 ⟨rfl, rfl⟩
  obtain ⟨gb, hgb⟩ : ∃ x, groupB gl = x := ⟨_, rfl⟩
  rw [hgb] at HCG HM
  cases gb
  case false =>
    clear hgb dt3
    go_wp2_with fail
    refine HCG.out.mono ?_
    rintro e w3 ⟨rfl, hb3⟩
    have HB3 := Lib.hid (HB.out.trans (hb3.mono HB.out.size))
    clear hb3 b0 b1 g0 HCG
    go_wp2_with fail
    go_ret
    exact ⟨ret_bool (by rw [HM.out, Bool.false_and]), HB3.out⟩
  case true =>
    have HGT := Lib.hid hgb
    have hgpos : 1 ≤ gl.length := by
      unfold groupB at hgb
      simp only [Bool.and_eq_true, decide_eq_true_iff] at hgb
      exact hgb.2
    clear hgb
    go_wp2_with fail
    refine HCG.out.mono ?_
    rintro e w3 ⟨rfl, hb3⟩
    have HB3 := Lib.hid (HB.out.trans (hb3.mono HB.out.size))
    have HX3 := Lib.hid (HX.out.below hb3)
    have HGB3 := Lib.hid (HGB.out.below hb3)
    have HR3 := Lib.hid (HR.out.below hb3)
    clear hb3 b0 b1 g0 HCG HX HGB HR HB
    have x0 := HX3.out.at.g0
    have x1 := HX3.out.at.g1
    have x2 := HX3.out.at.g2
    have x3 := HX3.out.at.g3
    have x5 := HX3.out.at.g5
    have x6 := HX3.out.at.g6
    have x7 := HX3.out.at.g7
    have x8 := HX3.out.at.g8
    have b1 := HGB3.out.cell 1 _ rfl
    go_upto_region 4 with fail
    go_wp2_with fail
    refine (HU.out _).mono ?_
    rintro e w3 ⟨rfl, rfl⟩
    clear dt
    go_wp2_with (first | (with_reducible refine (HHc.out _).mono ?_; rintro e w3 ⟨rfl, rfl⟩) | (with_reducible refine (HHp.out _).mono ?_; rintro e w3 ⟨rfl, rfl⟩) | (with_reducible refine (HHt.out _).mono ?_; rintro e w3 ⟨rfl, rfl⟩) | (with_reducible refine (HHs.out _).mono ?_; rintro e w3 ⟨rfl, rfl⟩) | (with_reducible refine (HHr.out _).mono ?_; rintro e w3 ⟨rfl, rfl⟩) | (with_reducible refine (HHo.out _).mono ?_; rintro e w3 ⟨rfl, rfl⟩) | (with_reducible refine (HHl.out _).mono ?_; rintro e w3 ⟨rfl, rfl⟩))
    all_goals
      go_ret
      refine ⟨ret_bool ?_, HB3.out⟩
      rw [HM.out]
      first
      | (refine (Bool.eq_false_iff.2 ?_).symm; simp only [ne_eq, inB, Bool.and_eq_true, decide_eq_true_iff, Bool.true_and, Bool.and_true]; omega)
      | (refine Eq.symm ?_; simp only [inB, Bool.and_eq_true, decide_eq_true_iff, Bool.true_and, Bool.and_true]; omega)

set_option maxHeartbeats 32000000 in
set_option maxRecDepth 100000 in
theorem rmay_b (c : Cl) (A : Option Addr) (cap : Nat) (s : ByteArray) (G : Option Addr) (gc : Nat) (gl : List Int) (w : World) (hR : IntRow w A c.reqs) (hl : c.reqs.length ≤ 1000) (hop : 0 ≤ c.op ∧ c.op ≤ 255) (hG : IntRow w G gl) (hgl : gl.length ≤ 1000) (hS : usesS c.kind = [99, 112, 116]) (hM : mayB c gl (usesF c.kind) = (groupB gl && (inB c.comm 0 31 && inB c.peer (-1) ((gl.length : Int) - 1) && inB c.tag (-1) 32767))) :
    Calls Try.prog 8 #[.agg (clCells c A cap), .agg #[.string s, .slice G gl.length gc]] w fun e w' => e = .returned (.bool (mayB c gl (usesF c.kind))) ∧ Below w.heap.size w w' := by
  have e1 : Below w.heap.size w (w.alloc (.cells (clCells c A cap) 24)) := (Below.refl _ _).alloc (Nat.le_refl _) _
  have f1 : ClBlk (w.alloc (.cells (clCells c A cap) 24)) w.heap.size c A cap := ClBlk.new
  obtain ⟨w1, hw1⟩ : ∃ y, y = w.alloc (.cells (clCells c A cap) 24) := ⟨_, rfl⟩
  rw [← hw1] at e1 f1
  have z1 : w1.heap.size = w.heap.size + 1 := by rw [hw1]; simp
  obtain ⟨w2, hw2⟩ : ∃ y, y = w1.alloc (.cells #[.string s, .slice G gl.length gc] 26) := ⟨_, rfl⟩
  have e2 : Below w1.heap.size w1 w2 := by rw [hw2]; exact (Below.refl _ _).alloc (Nat.le_refl _) _
  have f2 : BlkT w2 w1.heap.size 26 #[.string s, .slice G gl.length gc] := by rw [hw2]; exact heap_alloc_new _ _
  have HB := Lib.hid (e1.trans (e2.mono e1.size))
  have hX := f1.below e2
  have g0 := hX.at.g0
  have HX := Lib.hid hX
  rw [z1] at f2
  have HGB := Lib.hid f2
  have b0 := f2.cell 0 _ rfl
  have b1 := f2.cell 1 _ rfl
  have HR := Lib.hid (hR.below HB.out)
  have HCG := Lib.hid (rgroup_any s G gc gl w2 (hG.below HB.out) hgl)
  have HU := Lib.hid (fun w => ruses_any c.kind w)
  rw [hS] at HU
  obtain ⟨u, hu⟩ : ∃ u : ByteArray, (⟨([99, 112, 116] : List UInt8).toArray⟩ : ByteArray) = u := ⟨_, rfl⟩
  rw [hu] at HU
  have dt : (u.toList == []) = false := by rw [← hu, ByteArray.toList_eq]; rfl
  have dt3 : (u.toList == [99, 112, 116]) = true := by rw [← hu, ByteArray.toList_eq]; rfl
  have HM := Lib.hid hM
  have HOP := Lib.hid hop
  have hc := fun w => rhas_any c.kind 99 w
  simp only [show (((99 : UInt8).toNat : Nat) : Int) = 99 from rfl, hS, show (([99, 112, 116] : List UInt8).contains 99) = true from rfl] at hc
  have HHc := Lib.hid hc
  clear hc
  have hp := fun w => rhas_any c.kind 112 w
  simp only [show (((112 : UInt8).toNat : Nat) : Int) = 112 from rfl, hS, show (([99, 112, 116] : List UInt8).contains 112) = true from rfl] at hp
  have HHp := Lib.hid hp
  clear hp
  have ht := fun w => rhas_any c.kind 116 w
  simp only [show (((116 : UInt8).toNat : Nat) : Int) = 116 from rfl, hS, show (([99, 112, 116] : List UInt8).contains 116) = true from rfl] at ht
  have HHt := Lib.hid ht
  clear ht
  have hs := fun w => rhas_any c.kind 115 w
  simp only [show (((115 : UInt8).toNat : Nat) : Int) = 115 from rfl, hS, show (([99, 112, 116] : List UInt8).contains 115) = false from rfl] at hs
  have HHs := Lib.hid hs
  clear hs
  have hr := fun w => rhas_any c.kind 114 w
  simp only [show (((114 : UInt8).toNat : Nat) : Int) = 114 from rfl, hS, show (([99, 112, 116] : List UInt8).contains 114) = false from rfl] at hr
  have HHr := Lib.hid hr
  clear hr
  have ho := fun w => rhas_any c.kind 111 w
  simp only [show (((111 : UInt8).toNat : Nat) : Int) = 111 from rfl, hS, show (([99, 112, 116] : List UInt8).contains 111) = false from rfl] at ho
  have HHo := Lib.hid ho
  clear ho
  have hl := fun w => rhas_any c.kind 108 w
  simp only [show (((108 : UInt8).toNat : Nat) : Int) = 108 from rfl, hS, show (([99, 112, 116] : List UInt8).contains 108) = false from rfl] at hl
  have HHl := Lib.hid hl
  clear hl
  clear hu hS hM hop
  go_enter Try.func8, Try.ntmps8
  go_upto_region 1 with fail
  rw [← hw1, ← hw2]
  clear hw1 hw2 e1 e2 f1 f2 z1 hR hG hX
  generalize w.heap.size + 1 = q1 at *
  go_wp2_with fail
  refine (HU.out _).mono ?_
  rintro e w2 ⟨rfl, rfl⟩
  obtain ⟨gb, hgb⟩ : ∃ x, groupB gl = x := ⟨_, rfl⟩
  rw [hgb] at HCG HM
  cases gb
  case false =>
    clear hgb dt3
    go_wp2_with fail
    refine HCG.out.mono ?_
    rintro e w3 ⟨rfl, hb3⟩
    have HB3 := Lib.hid (HB.out.trans (hb3.mono HB.out.size))
    clear hb3 b0 b1 g0 HCG
    go_wp2_with fail
    go_ret
    exact ⟨ret_bool (by rw [HM.out, Bool.false_and]), HB3.out⟩
  case true =>
    have HGT := Lib.hid hgb
    have hgpos : 1 ≤ gl.length := by
      unfold groupB at hgb
      simp only [Bool.and_eq_true, decide_eq_true_iff] at hgb
      exact hgb.2
    clear hgb
    go_wp2_with fail
    refine HCG.out.mono ?_
    rintro e w3 ⟨rfl, hb3⟩
    have HB3 := Lib.hid (HB.out.trans (hb3.mono HB.out.size))
    have HX3 := Lib.hid (HX.out.below hb3)
    have HGB3 := Lib.hid (HGB.out.below hb3)
    have HR3 := Lib.hid (HR.out.below hb3)
    clear hb3 b0 b1 g0 HCG HX HGB HR HB
    have x0 := HX3.out.at.g0
    have x1 := HX3.out.at.g1
    have x2 := HX3.out.at.g2
    have x3 := HX3.out.at.g3
    have x5 := HX3.out.at.g5
    have x6 := HX3.out.at.g6
    have x7 := HX3.out.at.g7
    have x8 := HX3.out.at.g8
    have b1 := HGB3.out.cell 1 _ rfl
    go_upto_region 4 with fail
    go_wp2_with fail
    refine (HU.out _).mono ?_
    rintro e w3 ⟨rfl, rfl⟩
    clear dt
    go_wp2_with (first | (with_reducible refine (HHc.out _).mono ?_; rintro e w3 ⟨rfl, rfl⟩) | (with_reducible refine (HHp.out _).mono ?_; rintro e w3 ⟨rfl, rfl⟩) | (with_reducible refine (HHt.out _).mono ?_; rintro e w3 ⟨rfl, rfl⟩) | (with_reducible refine (HHs.out _).mono ?_; rintro e w3 ⟨rfl, rfl⟩) | (with_reducible refine (HHr.out _).mono ?_; rintro e w3 ⟨rfl, rfl⟩) | (with_reducible refine (HHo.out _).mono ?_; rintro e w3 ⟨rfl, rfl⟩) | (with_reducible refine (HHl.out _).mono ?_; rintro e w3 ⟨rfl, rfl⟩))
    all_goals
      go_ret
      refine ⟨ret_bool ?_, HB3.out⟩
      rw [HM.out]
      first
      | (refine (Bool.eq_false_iff.2 ?_).symm; simp only [ne_eq, inB, Bool.and_eq_true, decide_eq_true_iff, Bool.true_and, Bool.and_true]; omega)
      | (refine Eq.symm ?_; simp only [inB, Bool.and_eq_true, decide_eq_true_iff, Bool.true_and, Bool.and_true]; omega)

set_option maxHeartbeats 32000000 in
set_option maxRecDepth 100000 in
theorem rmay_c (c : Cl) (A : Option Addr) (cap : Nat) (s : ByteArray) (G : Option Addr) (gc : Nat) (gl : List Int) (w : World) (hR : IntRow w A c.reqs) (hl : c.reqs.length ≤ 1000) (hop : 0 ≤ c.op ∧ c.op ≤ 255) (hG : IntRow w G gl) (hgl : gl.length ≤ 1000) (hS : usesS c.kind = [108]) (hM : mayB c gl (usesF c.kind) = (groupB gl && ((listedB c && okReqs c.reqs)))) :
    Calls Try.prog 8 #[.agg (clCells c A cap), .agg #[.string s, .slice G gl.length gc]] w fun e w' => e = .returned (.bool (mayB c gl (usesF c.kind))) ∧ Below w.heap.size w w' := by
  have e1 : Below w.heap.size w (w.alloc (.cells (clCells c A cap) 24)) := (Below.refl _ _).alloc (Nat.le_refl _) _
  have f1 : ClBlk (w.alloc (.cells (clCells c A cap) 24)) w.heap.size c A cap := ClBlk.new
  obtain ⟨w1, hw1⟩ : ∃ y, y = w.alloc (.cells (clCells c A cap) 24) := ⟨_, rfl⟩
  rw [← hw1] at e1 f1
  have z1 : w1.heap.size = w.heap.size + 1 := by rw [hw1]; simp
  obtain ⟨w2, hw2⟩ : ∃ y, y = w1.alloc (.cells #[.string s, .slice G gl.length gc] 26) := ⟨_, rfl⟩
  have e2 : Below w1.heap.size w1 w2 := by rw [hw2]; exact (Below.refl _ _).alloc (Nat.le_refl _) _
  have f2 : BlkT w2 w1.heap.size 26 #[.string s, .slice G gl.length gc] := by rw [hw2]; exact heap_alloc_new _ _
  have HB := Lib.hid (e1.trans (e2.mono e1.size))
  have hX := f1.below e2
  have g0 := hX.at.g0
  have HX := Lib.hid hX
  rw [z1] at f2
  have HGB := Lib.hid f2
  have b0 := f2.cell 0 _ rfl
  have b1 := f2.cell 1 _ rfl
  have HR := Lib.hid (hR.below HB.out)
  have HCG := Lib.hid (rgroup_any s G gc gl w2 (hG.below HB.out) hgl)
  have HU := Lib.hid (fun w => ruses_any c.kind w)
  rw [hS] at HU
  obtain ⟨u, hu⟩ : ∃ u : ByteArray, (⟨([108] : List UInt8).toArray⟩ : ByteArray) = u := ⟨_, rfl⟩
  rw [hu] at HU
  have dt : (u.toList == []) = false := by rw [← hu, ByteArray.toList_eq]; rfl
  have dt3 : (u.toList == [99, 112, 116]) = false := by rw [← hu, ByteArray.toList_eq]; rfl
  have HM := Lib.hid hM
  have HOP := Lib.hid hop
  have hc := fun w => rhas_any c.kind 99 w
  simp only [show (((99 : UInt8).toNat : Nat) : Int) = 99 from rfl, hS, show (([108] : List UInt8).contains 99) = false from rfl] at hc
  have HHc := Lib.hid hc
  clear hc
  have hp := fun w => rhas_any c.kind 112 w
  simp only [show (((112 : UInt8).toNat : Nat) : Int) = 112 from rfl, hS, show (([108] : List UInt8).contains 112) = false from rfl] at hp
  have HHp := Lib.hid hp
  clear hp
  have ht := fun w => rhas_any c.kind 116 w
  simp only [show (((116 : UInt8).toNat : Nat) : Int) = 116 from rfl, hS, show (([108] : List UInt8).contains 116) = false from rfl] at ht
  have HHt := Lib.hid ht
  clear ht
  have hs := fun w => rhas_any c.kind 115 w
  simp only [show (((115 : UInt8).toNat : Nat) : Int) = 115 from rfl, hS, show (([108] : List UInt8).contains 115) = false from rfl] at hs
  have HHs := Lib.hid hs
  clear hs
  have hr := fun w => rhas_any c.kind 114 w
  simp only [show (((114 : UInt8).toNat : Nat) : Int) = 114 from rfl, hS, show (([108] : List UInt8).contains 114) = false from rfl] at hr
  have HHr := Lib.hid hr
  clear hr
  have ho := fun w => rhas_any c.kind 111 w
  simp only [show (((111 : UInt8).toNat : Nat) : Int) = 111 from rfl, hS, show (([108] : List UInt8).contains 111) = false from rfl] at ho
  have HHo := Lib.hid ho
  clear ho
  have hl := fun w => rhas_any c.kind 108 w
  simp only [show (((108 : UInt8).toNat : Nat) : Int) = 108 from rfl, hS, show (([108] : List UInt8).contains 108) = true from rfl] at hl
  have HHl := Lib.hid hl
  clear hl
  clear hu hS hM hop
  go_enter Try.func8, Try.ntmps8
  go_upto_region 1 with fail
  rw [← hw1, ← hw2]
  clear hw1 hw2 e1 e2 f1 f2 z1 hR hG hX
  generalize w.heap.size + 1 = q1 at *
  go_wp2_with fail
  refine (HU.out _).mono ?_
  rintro e w2 ⟨rfl, rfl⟩
  obtain ⟨gb, hgb⟩ : ∃ x, groupB gl = x := ⟨_, rfl⟩
  rw [hgb] at HCG HM
  cases gb
  case false =>
    clear hgb dt3
    go_wp2_with fail
    refine HCG.out.mono ?_
    rintro e w3 ⟨rfl, hb3⟩
    have HB3 := Lib.hid (HB.out.trans (hb3.mono HB.out.size))
    clear hb3 b0 b1 g0 HCG
    go_wp2_with fail
    go_ret
    exact ⟨ret_bool (by rw [HM.out, Bool.false_and]), HB3.out⟩
  case true =>
    have HGT := Lib.hid hgb
    have hgpos : 1 ≤ gl.length := by
      unfold groupB at hgb
      simp only [Bool.and_eq_true, decide_eq_true_iff] at hgb
      exact hgb.2
    clear hgb
    go_wp2_with fail
    refine HCG.out.mono ?_
    rintro e w3 ⟨rfl, hb3⟩
    have HB3 := Lib.hid (HB.out.trans (hb3.mono HB.out.size))
    have HX3 := Lib.hid (HX.out.below hb3)
    have HGB3 := Lib.hid (HGB.out.below hb3)
    have HR3 := Lib.hid (HR.out.below hb3)
    clear hb3 b0 b1 g0 HCG HX HGB HR HB
    have x0 := HX3.out.at.g0
    have x1 := HX3.out.at.g1
    have x2 := HX3.out.at.g2
    have x3 := HX3.out.at.g3
    have x5 := HX3.out.at.g5
    have x6 := HX3.out.at.g6
    have x7 := HX3.out.at.g7
    have x8 := HX3.out.at.g8
    have b1 := HGB3.out.cell 1 _ rfl
    go_upto_region 4 with fail
    go_wp2_with fail
    refine (HU.out _).mono ?_
    rintro e w3 ⟨rfl, rfl⟩
    clear dt
    go_upto_region 13 with (first | (with_reducible refine (HHc.out _).mono ?_; rintro e w3 ⟨rfl, rfl⟩) | (with_reducible refine (HHp.out _).mono ?_; rintro e w3 ⟨rfl, rfl⟩) | (with_reducible refine (HHt.out _).mono ?_; rintro e w3 ⟨rfl, rfl⟩) | (with_reducible refine (HHs.out _).mono ?_; rintro e w3 ⟨rfl, rfl⟩) | (with_reducible refine (HHr.out _).mono ?_; rintro e w3 ⟨rfl, rfl⟩) | (with_reducible refine (HHo.out _).mono ?_; rintro e w3 ⟨rfl, rfl⟩) | (with_reducible refine (HHl.out _).mono ?_; rintro e w3 ⟨rfl, rfl⟩))
    clear x1 x2 x3 x5 x6 x7 b1 dt3
    have x1 := HX3.out.at.g1
    have x2 := HX3.out.at.g2
    have x3 := HX3.out.at.g3
    have x4 := HX3.out.at.g4
    have x5 := HX3.out.at.g5
    have x6 := HX3.out.at.g6
    have x7 := HX3.out.at.g7
    have x9 := HX3.out.at.g9
    have xA := HX3.out.at.gA
    have HMA := Lib.hid (many_any16 c A cap w3)
    obtain ⟨li, hli⟩ : ∃ x, listedB c = x := ⟨_, rfl⟩
    rw [hli] at HMA HM
    clear hli
    go_wp2_with fail
    refine HMA.out.mono ?_
    rintro e w4 ⟨rfl, hb4⟩
    have HB4 := Lib.hid (HB3.out.trans (hb4.mono HB3.out.size))
    have HX4 := Lib.hid (HX3.out.below hb4)
    have HR4 := Lib.hid (HR3.out.below hb4)
    clear hb4 x0 x1 x2 x3 x4 x5 x6 x7 x8 x9 xA HMA HX3 HR3 HB3
    cases li
    case false =>
      go_wp2_with fail
      go_ret
      exact ⟨ret_bool (by rw [HM.out]; simp), HB4.out⟩
    case true =>
      have HMM := Lib.hid (show mayB c gl (usesF c.kind) = okReqs c.reqs by rw [HM.out]; simp)
      clear HM
      go_wp2_with fail
      go_loopg [7] (c.reqs.length + 1) (fun g2 i wx => ∃ k : Nat, i = .int .i64 k ∧ k ≤ c.reqs.length ∧ c.reqs.length - k < g2 ∧ Hid (OkReq c.reqs k) ∧ Hid (Below w4.heap.size w4 wx))
      case atStart => exact ⟨0, rfl, by omega, by omega, Lib.hid ⟨by simp, by simp⟩, Lib.hid (Below.refl _ _)⟩
      case round =>
        obtain ⟨k, rfl, hk, hg, HOK, HBX⟩ := hrel
        obtain ⟨g, rfl⟩ : ∃ g, gk = g + 1 := ⟨gk - 1, by omega⟩
        have HBB := Lib.hid (HB4.out.trans (HBX.out.mono HB4.out.size))
        have HXW := Lib.hid (HX4.out.below HBX.out)
        have g8 := HXW.out.at.g8
        by_cases hlt : k < c.reqs.length
        · obtain ⟨b, o, rfl, hbl, c0⟩ := (HR4.out.below HBX.out) k hlt
          have HRX := Lib.hid (HR4.out.below HBX.out)
          have HBAD := Lib.hid (fun h => HMM.out.trans (okReqs_bad c.reqs k hlt h))
          have HSUC := Lib.hid (okReq_succ HOK.out hlt)
          have HGE := Lib.hid (show ∀ i (hi : i < c.reqs.length), i < k → c.reqs[i] = c.reqs[k] → c.reqs[k] ∈ c.reqs.take k from fun i hi hik he => by
            rw [← he]
            exact List.mem_iff_getElem.2 ⟨i, by rw [List.length_take]; omega, List.getElem_take⟩)
          have HTK := Lib.hid (show ∀ x ∈ c.reqs.take k, ∃ i, ∃ hi : i < c.reqs.length, i < k ∧ c.reqs[i] = x from fun x hx => by
            obtain ⟨i, hi, rfl⟩ := List.getElem_of_mem hx
            rw [List.length_take] at hi
            exact ⟨i, by omega, by omega, by simp⟩)
          clear hbl
          have HC0 := Lib.hid c0
          generalize hxk : c.reqs[k] = x at *
          have HXK := Lib.hid hxk
          clear hxk
          have hdl : decide (k < c.reqs.length) = true := by simp; omega
          by_cases h0 : x < 0
          · have hd : decide (x < 0) = true := by simpa using h0
            have HF := Lib.hid (HBAD.out (Or.inl h0))
            clear h0
            go_wp2_with fail
            go_ret
            exact ⟨ret_bool HF.out.symm, HBB.out⟩
          · have hd : decide (x < 0) = false := by simpa using h0
            by_cases h1 : 255 < x
            · have hd1 : decide (255 < x) = true := by simp; omega
              have HF := Lib.hid (HBAD.out (Or.inr (Or.inl h1)))
              clear h0 h1
              go_wp2_with fail
              go_ret
              exact ⟨ret_bool HF.out.symm, HBB.out⟩
            · have hd1 : decide (255 < x) = false := by simp; omega
              have HSUC2 := Lib.hid (HSUC.out (by omega) (by omega))
              clear h0 h1
              go_upto_region 20 with fail
              clear c0 hd1 hd
              go_wp2_with fail
              go_loopg [8] (k + 1) (fun g3 i wy => ∃ j : Nat, i = .int .i64 j ∧ j ≤ k ∧ k - j < g3 ∧ Hid (∀ i (hi : i < c.reqs.length), i < j → c.reqs[i] ≠ x) ∧ Hid (Below wr.heap.size wr wy))
              case atStart => exact ⟨0, rfl, by omega, by omega, Lib.hid (fun i hi hj => by omega), Lib.hid (Below.refl _ _)⟩
              case round =>
                obtain ⟨j, rfl, hj, hg3, HNE, HBY⟩ := hrel
                obtain ⟨g3, rfl⟩ : ∃ g3', gk = g3' + 1 := ⟨gk - 1, by omega⟩
                have HBBY := Lib.hid (HBB.out.trans (HBY.out.mono HBB.out.size))
                have HBXY := Lib.hid (HBX.out.trans (HBY.out.mono HBX.out.size))
                by_cases hjk : j < k
                · have hdj : decide (j < k) = true := by simpa using hjk
                  have g8 := (HXW.out.below HBY.out).at.g8
                  have cx := cell_later HBY.out HC0.out
                  have hjl : j < c.reqs.length := by omega
                  obtain ⟨b2, o2, eb, _, cj⟩ := (HRX.out.below HBY.out) j hjl
                  cases eb
                  have HNJ := Lib.hid (fun (h : c.reqs[j] ≠ x) => show ∀ i (hi : i < c.reqs.length), i < j + 1 → c.reqs[i] ≠ x from fun i hi hij => by
                    rcases Nat.lt_or_eq_of_le (Nat.le_of_lt_succ hij) with h1 | rfl
                    · exact HNE.out i hi h1
                    · exact h)
                  have HJ := Lib.hid (fun (h : c.reqs[j] = x) => HBAD.out (Or.inr (Or.inr (HGE.out j hjl hjk h))))
                  generalize c.reqs[j] = y at *
                  by_cases hyx : y = x
                  · subst hyx
                    have HF := Lib.hid (HJ.out rfl)
                    go_upto_region 23 with fail
                    go_quiet (fail)
                    go_wp2_with fail
                    go_ret
                    exact ⟨ret_bool HF.out.symm, below_drewN HBBY.out _⟩
                  · have hde : (y == x) = false := by simpa using hyx
                    have HNJ2 := Lib.hid (HNJ.out hyx)
                    clear hyx
                    go_upto_region 23 with fail
                    go_quiet (fail)
                    clear cx cj
                    go_wp2_with fail
                    go_roundg g3
                    case measure => omega
                    case rel => exact ⟨j + 1, by go_num, by omega, by omega, HNJ2, Lib.hid (below_drewN HBY.out _)⟩
                · obtain rfl : j = k := by omega
                  have hdj : decide (j < j) = false := by simp
                  have HOK2 := Lib.hid (HSUC2.out (fun hm => by
                    obtain ⟨i, hi, hij, he⟩ := HTK.out x hm
                    exact HNE.out i hi hij he))
                  go_wp2_with fail
                  go_roundg g
                  case measure => omega
                  case rel => exact ⟨j + 1, by go_num, by omega, by omega, HOK2, HBXY⟩
        · obtain rfl : k = c.reqs.length := by omega
          have HF := Lib.hid (HMM.out.trans (okReqs_good c.reqs HOK.out))
          have hdl : decide (c.reqs.length < c.reqs.length) = false := by simp
          go_wp2_with fail
          go_ret
          exact ⟨ret_bool HF.out.symm, HBB.out⟩

set_option maxHeartbeats 32000000 in
set_option maxRecDepth 100000 in
theorem rmay_d (c : Cl) (A : Option Addr) (cap : Nat) (s : ByteArray) (G : Option Addr) (gc : Nat) (gl : List Int) (w : World) (hR : IntRow w A c.reqs) (hl : c.reqs.length ≤ 1000) (hop : 0 ≤ c.op ∧ c.op ≤ 255) (hG : IntRow w G gl) (hgl : gl.length ≤ 1000) (hS : usesS c.kind = [99]) (hM : mayB c gl (usesF c.kind) = (groupB gl && (inB c.comm 0 31))) :
    Calls Try.prog 8 #[.agg (clCells c A cap), .agg #[.string s, .slice G gl.length gc]] w fun e w' => e = .returned (.bool (mayB c gl (usesF c.kind))) ∧ Below w.heap.size w w' := by
  have e1 : Below w.heap.size w (w.alloc (.cells (clCells c A cap) 24)) := (Below.refl _ _).alloc (Nat.le_refl _) _
  have f1 : ClBlk (w.alloc (.cells (clCells c A cap) 24)) w.heap.size c A cap := ClBlk.new
  obtain ⟨w1, hw1⟩ : ∃ y, y = w.alloc (.cells (clCells c A cap) 24) := ⟨_, rfl⟩
  rw [← hw1] at e1 f1
  have z1 : w1.heap.size = w.heap.size + 1 := by rw [hw1]; simp
  obtain ⟨w2, hw2⟩ : ∃ y, y = w1.alloc (.cells #[.string s, .slice G gl.length gc] 26) := ⟨_, rfl⟩
  have e2 : Below w1.heap.size w1 w2 := by rw [hw2]; exact (Below.refl _ _).alloc (Nat.le_refl _) _
  have f2 : BlkT w2 w1.heap.size 26 #[.string s, .slice G gl.length gc] := by rw [hw2]; exact heap_alloc_new _ _
  have HB := Lib.hid (e1.trans (e2.mono e1.size))
  have hX := f1.below e2
  have g0 := hX.at.g0
  have HX := Lib.hid hX
  rw [z1] at f2
  have HGB := Lib.hid f2
  have b0 := f2.cell 0 _ rfl
  have b1 := f2.cell 1 _ rfl
  have HR := Lib.hid (hR.below HB.out)
  have HCG := Lib.hid (rgroup_any s G gc gl w2 (hG.below HB.out) hgl)
  have HU := Lib.hid (fun w => ruses_any c.kind w)
  rw [hS] at HU
  obtain ⟨u, hu⟩ : ∃ u : ByteArray, (⟨([99] : List UInt8).toArray⟩ : ByteArray) = u := ⟨_, rfl⟩
  rw [hu] at HU
  have dt : (u.toList == []) = false := by rw [← hu, ByteArray.toList_eq]; rfl
  have dt3 : (u.toList == [99, 112, 116]) = false := by rw [← hu, ByteArray.toList_eq]; rfl
  have HM := Lib.hid hM
  have HOP := Lib.hid hop
  have hc := fun w => rhas_any c.kind 99 w
  simp only [show (((99 : UInt8).toNat : Nat) : Int) = 99 from rfl, hS, show (([99] : List UInt8).contains 99) = true from rfl] at hc
  have HHc := Lib.hid hc
  clear hc
  have hp := fun w => rhas_any c.kind 112 w
  simp only [show (((112 : UInt8).toNat : Nat) : Int) = 112 from rfl, hS, show (([99] : List UInt8).contains 112) = false from rfl] at hp
  have HHp := Lib.hid hp
  clear hp
  have ht := fun w => rhas_any c.kind 116 w
  simp only [show (((116 : UInt8).toNat : Nat) : Int) = 116 from rfl, hS, show (([99] : List UInt8).contains 116) = false from rfl] at ht
  have HHt := Lib.hid ht
  clear ht
  have hs := fun w => rhas_any c.kind 115 w
  simp only [show (((115 : UInt8).toNat : Nat) : Int) = 115 from rfl, hS, show (([99] : List UInt8).contains 115) = false from rfl] at hs
  have HHs := Lib.hid hs
  clear hs
  have hr := fun w => rhas_any c.kind 114 w
  simp only [show (((114 : UInt8).toNat : Nat) : Int) = 114 from rfl, hS, show (([99] : List UInt8).contains 114) = false from rfl] at hr
  have HHr := Lib.hid hr
  clear hr
  have ho := fun w => rhas_any c.kind 111 w
  simp only [show (((111 : UInt8).toNat : Nat) : Int) = 111 from rfl, hS, show (([99] : List UInt8).contains 111) = false from rfl] at ho
  have HHo := Lib.hid ho
  clear ho
  have hl := fun w => rhas_any c.kind 108 w
  simp only [show (((108 : UInt8).toNat : Nat) : Int) = 108 from rfl, hS, show (([99] : List UInt8).contains 108) = false from rfl] at hl
  have HHl := Lib.hid hl
  clear hl
  clear hu hS hM hop
  go_enter Try.func8, Try.ntmps8
  go_upto_region 1 with fail
  rw [← hw1, ← hw2]
  clear hw1 hw2 e1 e2 f1 f2 z1 hR hG hX
  generalize w.heap.size + 1 = q1 at *
  go_wp2_with fail
  refine (HU.out _).mono ?_
  rintro e w2 ⟨rfl, rfl⟩
  obtain ⟨gb, hgb⟩ : ∃ x, groupB gl = x := ⟨_, rfl⟩
  rw [hgb] at HCG HM
  cases gb
  case false =>
    clear hgb dt3
    go_wp2_with fail
    refine HCG.out.mono ?_
    rintro e w3 ⟨rfl, hb3⟩
    have HB3 := Lib.hid (HB.out.trans (hb3.mono HB.out.size))
    clear hb3 b0 b1 g0 HCG
    go_wp2_with fail
    go_ret
    exact ⟨ret_bool (by rw [HM.out, Bool.false_and]), HB3.out⟩
  case true =>
    have HGT := Lib.hid hgb
    have hgpos : 1 ≤ gl.length := by
      unfold groupB at hgb
      simp only [Bool.and_eq_true, decide_eq_true_iff] at hgb
      exact hgb.2
    clear hgb
    go_wp2_with fail
    refine HCG.out.mono ?_
    rintro e w3 ⟨rfl, hb3⟩
    have HB3 := Lib.hid (HB.out.trans (hb3.mono HB.out.size))
    have HX3 := Lib.hid (HX.out.below hb3)
    have HGB3 := Lib.hid (HGB.out.below hb3)
    have HR3 := Lib.hid (HR.out.below hb3)
    clear hb3 b0 b1 g0 HCG HX HGB HR HB
    have x0 := HX3.out.at.g0
    have x1 := HX3.out.at.g1
    have x2 := HX3.out.at.g2
    have x3 := HX3.out.at.g3
    have x5 := HX3.out.at.g5
    have x6 := HX3.out.at.g6
    have x7 := HX3.out.at.g7
    have x8 := HX3.out.at.g8
    have b1 := HGB3.out.cell 1 _ rfl
    go_upto_region 4 with fail
    go_wp2_with fail
    refine (HU.out _).mono ?_
    rintro e w3 ⟨rfl, rfl⟩
    clear dt
    go_wp2_with (first | (with_reducible refine (HHc.out _).mono ?_; rintro e w3 ⟨rfl, rfl⟩) | (with_reducible refine (HHp.out _).mono ?_; rintro e w3 ⟨rfl, rfl⟩) | (with_reducible refine (HHt.out _).mono ?_; rintro e w3 ⟨rfl, rfl⟩) | (with_reducible refine (HHs.out _).mono ?_; rintro e w3 ⟨rfl, rfl⟩) | (with_reducible refine (HHr.out _).mono ?_; rintro e w3 ⟨rfl, rfl⟩) | (with_reducible refine (HHo.out _).mono ?_; rintro e w3 ⟨rfl, rfl⟩) | (with_reducible refine (HHl.out _).mono ?_; rintro e w3 ⟨rfl, rfl⟩))
    all_goals
      go_ret
      refine ⟨ret_bool ?_, HB3.out⟩
      rw [HM.out]
      first
      | (refine (Bool.eq_false_iff.2 ?_).symm; simp only [ne_eq, inB, Bool.and_eq_true, decide_eq_true_iff, Bool.true_and, Bool.and_true]; omega)
      | (refine Eq.symm ?_; simp only [inB, Bool.and_eq_true, decide_eq_true_iff, Bool.true_and, Bool.and_true]; omega)

set_option maxHeartbeats 32000000 in
set_option maxRecDepth 100000 in
theorem rmay_e (c : Cl) (A : Option Addr) (cap : Nat) (s : ByteArray) (G : Option Addr) (gc : Nat) (gl : List Int) (w : World) (hR : IntRow w A c.reqs) (hl : c.reqs.length ≤ 1000) (hop : 0 ≤ c.op ∧ c.op ≤ 255) (hG : IntRow w G gl) (hgl : gl.length ≤ 1000) (hS : usesS c.kind = [99, 114, 118]) (hM : mayB c gl (usesF c.kind) = (groupB gl && (inB c.comm 0 31 && inB c.root 0 ((gl.length : Int) - 1) && true))) :
    Calls Try.prog 8 #[.agg (clCells c A cap), .agg #[.string s, .slice G gl.length gc]] w fun e w' => e = .returned (.bool (mayB c gl (usesF c.kind))) ∧ Below w.heap.size w w' := by
  have e1 : Below w.heap.size w (w.alloc (.cells (clCells c A cap) 24)) := (Below.refl _ _).alloc (Nat.le_refl _) _
  have f1 : ClBlk (w.alloc (.cells (clCells c A cap) 24)) w.heap.size c A cap := ClBlk.new
  obtain ⟨w1, hw1⟩ : ∃ y, y = w.alloc (.cells (clCells c A cap) 24) := ⟨_, rfl⟩
  rw [← hw1] at e1 f1
  have z1 : w1.heap.size = w.heap.size + 1 := by rw [hw1]; simp
  obtain ⟨w2, hw2⟩ : ∃ y, y = w1.alloc (.cells #[.string s, .slice G gl.length gc] 26) := ⟨_, rfl⟩
  have e2 : Below w1.heap.size w1 w2 := by rw [hw2]; exact (Below.refl _ _).alloc (Nat.le_refl _) _
  have f2 : BlkT w2 w1.heap.size 26 #[.string s, .slice G gl.length gc] := by rw [hw2]; exact heap_alloc_new _ _
  have HB := Lib.hid (e1.trans (e2.mono e1.size))
  have hX := f1.below e2
  have g0 := hX.at.g0
  have HX := Lib.hid hX
  rw [z1] at f2
  have HGB := Lib.hid f2
  have b0 := f2.cell 0 _ rfl
  have b1 := f2.cell 1 _ rfl
  have HR := Lib.hid (hR.below HB.out)
  have HCG := Lib.hid (rgroup_any s G gc gl w2 (hG.below HB.out) hgl)
  have HU := Lib.hid (fun w => ruses_any c.kind w)
  rw [hS] at HU
  obtain ⟨u, hu⟩ : ∃ u : ByteArray, (⟨([99, 114, 118] : List UInt8).toArray⟩ : ByteArray) = u := ⟨_, rfl⟩
  rw [hu] at HU
  have dt : (u.toList == []) = false := by rw [← hu, ByteArray.toList_eq]; rfl
  have dt3 : (u.toList == [99, 112, 116]) = false := by rw [← hu, ByteArray.toList_eq]; rfl
  have HM := Lib.hid hM
  have HOP := Lib.hid hop
  have hc := fun w => rhas_any c.kind 99 w
  simp only [show (((99 : UInt8).toNat : Nat) : Int) = 99 from rfl, hS, show (([99, 114, 118] : List UInt8).contains 99) = true from rfl] at hc
  have HHc := Lib.hid hc
  clear hc
  have hp := fun w => rhas_any c.kind 112 w
  simp only [show (((112 : UInt8).toNat : Nat) : Int) = 112 from rfl, hS, show (([99, 114, 118] : List UInt8).contains 112) = false from rfl] at hp
  have HHp := Lib.hid hp
  clear hp
  have ht := fun w => rhas_any c.kind 116 w
  simp only [show (((116 : UInt8).toNat : Nat) : Int) = 116 from rfl, hS, show (([99, 114, 118] : List UInt8).contains 116) = false from rfl] at ht
  have HHt := Lib.hid ht
  clear ht
  have hs := fun w => rhas_any c.kind 115 w
  simp only [show (((115 : UInt8).toNat : Nat) : Int) = 115 from rfl, hS, show (([99, 114, 118] : List UInt8).contains 115) = false from rfl] at hs
  have HHs := Lib.hid hs
  clear hs
  have hr := fun w => rhas_any c.kind 114 w
  simp only [show (((114 : UInt8).toNat : Nat) : Int) = 114 from rfl, hS, show (([99, 114, 118] : List UInt8).contains 114) = true from rfl] at hr
  have HHr := Lib.hid hr
  clear hr
  have ho := fun w => rhas_any c.kind 111 w
  simp only [show (((111 : UInt8).toNat : Nat) : Int) = 111 from rfl, hS, show (([99, 114, 118] : List UInt8).contains 111) = false from rfl] at ho
  have HHo := Lib.hid ho
  clear ho
  have hl := fun w => rhas_any c.kind 108 w
  simp only [show (((108 : UInt8).toNat : Nat) : Int) = 108 from rfl, hS, show (([99, 114, 118] : List UInt8).contains 108) = false from rfl] at hl
  have HHl := Lib.hid hl
  clear hl
  clear hu hS hM hop
  go_enter Try.func8, Try.ntmps8
  go_upto_region 1 with fail
  rw [← hw1, ← hw2]
  clear hw1 hw2 e1 e2 f1 f2 z1 hR hG hX
  generalize w.heap.size + 1 = q1 at *
  go_wp2_with fail
  refine (HU.out _).mono ?_
  rintro e w2 ⟨rfl, rfl⟩
  obtain ⟨gb, hgb⟩ : ∃ x, groupB gl = x := ⟨_, rfl⟩
  rw [hgb] at HCG HM
  cases gb
  case false =>
    clear hgb dt3
    go_wp2_with fail
    refine HCG.out.mono ?_
    rintro e w3 ⟨rfl, hb3⟩
    have HB3 := Lib.hid (HB.out.trans (hb3.mono HB.out.size))
    clear hb3 b0 b1 g0 HCG
    go_wp2_with fail
    go_ret
    exact ⟨ret_bool (by rw [HM.out, Bool.false_and]), HB3.out⟩
  case true =>
    have HGT := Lib.hid hgb
    have hgpos : 1 ≤ gl.length := by
      unfold groupB at hgb
      simp only [Bool.and_eq_true, decide_eq_true_iff] at hgb
      exact hgb.2
    clear hgb
    go_wp2_with fail
    refine HCG.out.mono ?_
    rintro e w3 ⟨rfl, hb3⟩
    have HB3 := Lib.hid (HB.out.trans (hb3.mono HB.out.size))
    have HX3 := Lib.hid (HX.out.below hb3)
    have HGB3 := Lib.hid (HGB.out.below hb3)
    have HR3 := Lib.hid (HR.out.below hb3)
    clear hb3 b0 b1 g0 HCG HX HGB HR HB
    have x0 := HX3.out.at.g0
    have x1 := HX3.out.at.g1
    have x2 := HX3.out.at.g2
    have x3 := HX3.out.at.g3
    have x5 := HX3.out.at.g5
    have x6 := HX3.out.at.g6
    have x7 := HX3.out.at.g7
    have x8 := HX3.out.at.g8
    have b1 := HGB3.out.cell 1 _ rfl
    go_upto_region 4 with fail
    go_wp2_with fail
    refine (HU.out _).mono ?_
    rintro e w3 ⟨rfl, rfl⟩
    clear dt
    go_wp2_with (first | (with_reducible refine (HHc.out _).mono ?_; rintro e w3 ⟨rfl, rfl⟩) | (with_reducible refine (HHp.out _).mono ?_; rintro e w3 ⟨rfl, rfl⟩) | (with_reducible refine (HHt.out _).mono ?_; rintro e w3 ⟨rfl, rfl⟩) | (with_reducible refine (HHs.out _).mono ?_; rintro e w3 ⟨rfl, rfl⟩) | (with_reducible refine (HHr.out _).mono ?_; rintro e w3 ⟨rfl, rfl⟩) | (with_reducible refine (HHo.out _).mono ?_; rintro e w3 ⟨rfl, rfl⟩) | (with_reducible refine (HHl.out _).mono ?_; rintro e w3 ⟨rfl, rfl⟩))
    all_goals
      go_ret
      refine ⟨ret_bool ?_, HB3.out⟩
      rw [HM.out]
      first
      | (refine (Bool.eq_false_iff.2 ?_).symm; simp only [ne_eq, inB, Bool.and_eq_true, decide_eq_true_iff, Bool.true_and, Bool.and_true]; omega)
      | (refine Eq.symm ?_; simp only [inB, Bool.and_eq_true, decide_eq_true_iff, Bool.true_and, Bool.and_true]; omega)

set_option maxHeartbeats 32000000 in
set_option maxRecDepth 100000 in
theorem rmay_f (c : Cl) (A : Option Addr) (cap : Nat) (s : ByteArray) (G : Option Addr) (gc : Nat) (gl : List Int) (w : World) (hR : IntRow w A c.reqs) (hl : c.reqs.length ≤ 1000) (hop : 0 ≤ c.op ∧ c.op ≤ 255) (hG : IntRow w G gl) (hgl : gl.length ≤ 1000) (hS : usesS c.kind = [99, 114, 118, 111]) (hM : mayB c gl (usesF c.kind) = (groupB gl && (inB c.comm 0 31 && inB c.root 0 ((gl.length : Int) - 1) && true && decide (c.op ≤ 2)))) :
    Calls Try.prog 8 #[.agg (clCells c A cap), .agg #[.string s, .slice G gl.length gc]] w fun e w' => e = .returned (.bool (mayB c gl (usesF c.kind))) ∧ Below w.heap.size w w' := by
  have e1 : Below w.heap.size w (w.alloc (.cells (clCells c A cap) 24)) := (Below.refl _ _).alloc (Nat.le_refl _) _
  have f1 : ClBlk (w.alloc (.cells (clCells c A cap) 24)) w.heap.size c A cap := ClBlk.new
  obtain ⟨w1, hw1⟩ : ∃ y, y = w.alloc (.cells (clCells c A cap) 24) := ⟨_, rfl⟩
  rw [← hw1] at e1 f1
  have z1 : w1.heap.size = w.heap.size + 1 := by rw [hw1]; simp
  obtain ⟨w2, hw2⟩ : ∃ y, y = w1.alloc (.cells #[.string s, .slice G gl.length gc] 26) := ⟨_, rfl⟩
  have e2 : Below w1.heap.size w1 w2 := by rw [hw2]; exact (Below.refl _ _).alloc (Nat.le_refl _) _
  have f2 : BlkT w2 w1.heap.size 26 #[.string s, .slice G gl.length gc] := by rw [hw2]; exact heap_alloc_new _ _
  have HB := Lib.hid (e1.trans (e2.mono e1.size))
  have hX := f1.below e2
  have g0 := hX.at.g0
  have HX := Lib.hid hX
  rw [z1] at f2
  have HGB := Lib.hid f2
  have b0 := f2.cell 0 _ rfl
  have b1 := f2.cell 1 _ rfl
  have HR := Lib.hid (hR.below HB.out)
  have HCG := Lib.hid (rgroup_any s G gc gl w2 (hG.below HB.out) hgl)
  have HU := Lib.hid (fun w => ruses_any c.kind w)
  rw [hS] at HU
  obtain ⟨u, hu⟩ : ∃ u : ByteArray, (⟨([99, 114, 118, 111] : List UInt8).toArray⟩ : ByteArray) = u := ⟨_, rfl⟩
  rw [hu] at HU
  have dt : (u.toList == []) = false := by rw [← hu, ByteArray.toList_eq]; rfl
  have dt3 : (u.toList == [99, 112, 116]) = false := by rw [← hu, ByteArray.toList_eq]; rfl
  have HM := Lib.hid hM
  have HOP := Lib.hid hop
  have hc := fun w => rhas_any c.kind 99 w
  simp only [show (((99 : UInt8).toNat : Nat) : Int) = 99 from rfl, hS, show (([99, 114, 118, 111] : List UInt8).contains 99) = true from rfl] at hc
  have HHc := Lib.hid hc
  clear hc
  have hp := fun w => rhas_any c.kind 112 w
  simp only [show (((112 : UInt8).toNat : Nat) : Int) = 112 from rfl, hS, show (([99, 114, 118, 111] : List UInt8).contains 112) = false from rfl] at hp
  have HHp := Lib.hid hp
  clear hp
  have ht := fun w => rhas_any c.kind 116 w
  simp only [show (((116 : UInt8).toNat : Nat) : Int) = 116 from rfl, hS, show (([99, 114, 118, 111] : List UInt8).contains 116) = false from rfl] at ht
  have HHt := Lib.hid ht
  clear ht
  have hs := fun w => rhas_any c.kind 115 w
  simp only [show (((115 : UInt8).toNat : Nat) : Int) = 115 from rfl, hS, show (([99, 114, 118, 111] : List UInt8).contains 115) = false from rfl] at hs
  have HHs := Lib.hid hs
  clear hs
  have hr := fun w => rhas_any c.kind 114 w
  simp only [show (((114 : UInt8).toNat : Nat) : Int) = 114 from rfl, hS, show (([99, 114, 118, 111] : List UInt8).contains 114) = true from rfl] at hr
  have HHr := Lib.hid hr
  clear hr
  have ho := fun w => rhas_any c.kind 111 w
  simp only [show (((111 : UInt8).toNat : Nat) : Int) = 111 from rfl, hS, show (([99, 114, 118, 111] : List UInt8).contains 111) = true from rfl] at ho
  have HHo := Lib.hid ho
  clear ho
  have hl := fun w => rhas_any c.kind 108 w
  simp only [show (((108 : UInt8).toNat : Nat) : Int) = 108 from rfl, hS, show (([99, 114, 118, 111] : List UInt8).contains 108) = false from rfl] at hl
  have HHl := Lib.hid hl
  clear hl
  clear hu hS hM hop
  go_enter Try.func8, Try.ntmps8
  go_upto_region 1 with fail
  rw [← hw1, ← hw2]
  clear hw1 hw2 e1 e2 f1 f2 z1 hR hG hX
  generalize w.heap.size + 1 = q1 at *
  go_wp2_with fail
  refine (HU.out _).mono ?_
  rintro e w2 ⟨rfl, rfl⟩
  obtain ⟨gb, hgb⟩ : ∃ x, groupB gl = x := ⟨_, rfl⟩
  rw [hgb] at HCG HM
  cases gb
  case false =>
    clear hgb dt3
    go_wp2_with fail
    refine HCG.out.mono ?_
    rintro e w3 ⟨rfl, hb3⟩
    have HB3 := Lib.hid (HB.out.trans (hb3.mono HB.out.size))
    clear hb3 b0 b1 g0 HCG
    go_wp2_with fail
    go_ret
    exact ⟨ret_bool (by rw [HM.out, Bool.false_and]), HB3.out⟩
  case true =>
    have HGT := Lib.hid hgb
    have hgpos : 1 ≤ gl.length := by
      unfold groupB at hgb
      simp only [Bool.and_eq_true, decide_eq_true_iff] at hgb
      exact hgb.2
    clear hgb
    go_wp2_with fail
    refine HCG.out.mono ?_
    rintro e w3 ⟨rfl, hb3⟩
    have HB3 := Lib.hid (HB.out.trans (hb3.mono HB.out.size))
    have HX3 := Lib.hid (HX.out.below hb3)
    have HGB3 := Lib.hid (HGB.out.below hb3)
    have HR3 := Lib.hid (HR.out.below hb3)
    clear hb3 b0 b1 g0 HCG HX HGB HR HB
    have x0 := HX3.out.at.g0
    have x1 := HX3.out.at.g1
    have x2 := HX3.out.at.g2
    have x3 := HX3.out.at.g3
    have x5 := HX3.out.at.g5
    have x6 := HX3.out.at.g6
    have x7 := HX3.out.at.g7
    have x8 := HX3.out.at.g8
    have b1 := HGB3.out.cell 1 _ rfl
    go_upto_region 4 with fail
    go_wp2_with fail
    refine (HU.out _).mono ?_
    rintro e w3 ⟨rfl, rfl⟩
    clear dt
    go_wp2_with (first | (with_reducible refine (HHc.out _).mono ?_; rintro e w3 ⟨rfl, rfl⟩) | (with_reducible refine (HHp.out _).mono ?_; rintro e w3 ⟨rfl, rfl⟩) | (with_reducible refine (HHt.out _).mono ?_; rintro e w3 ⟨rfl, rfl⟩) | (with_reducible refine (HHs.out _).mono ?_; rintro e w3 ⟨rfl, rfl⟩) | (with_reducible refine (HHr.out _).mono ?_; rintro e w3 ⟨rfl, rfl⟩) | (with_reducible refine (HHo.out _).mono ?_; rintro e w3 ⟨rfl, rfl⟩) | (with_reducible refine (HHl.out _).mono ?_; rintro e w3 ⟨rfl, rfl⟩))
    all_goals
      go_ret
      refine ⟨ret_bool ?_, HB3.out⟩
      rw [HM.out]
      first
      | (refine (Bool.eq_false_iff.2 ?_).symm; simp only [ne_eq, inB, Bool.and_eq_true, decide_eq_true_iff, Bool.true_and, Bool.and_true]; omega)
      | (refine Eq.symm ?_; simp only [inB, Bool.and_eq_true, decide_eq_true_iff, Bool.true_and, Bool.and_true]; omega)

set_option maxHeartbeats 32000000 in
set_option maxRecDepth 100000 in
theorem rmay_g (c : Cl) (A : Option Addr) (cap : Nat) (s : ByteArray) (G : Option Addr) (gc : Nat) (gl : List Int) (w : World) (hR : IntRow w A c.reqs) (hl : c.reqs.length ≤ 1000) (hop : 0 ≤ c.op ∧ c.op ≤ 255) (hG : IntRow w G gl) (hgl : gl.length ≤ 1000) (hS : usesS c.kind = [99, 118, 111]) (hM : mayB c gl (usesF c.kind) = (groupB gl && (inB c.comm 0 31 && true && decide (c.op ≤ 2)))) :
    Calls Try.prog 8 #[.agg (clCells c A cap), .agg #[.string s, .slice G gl.length gc]] w fun e w' => e = .returned (.bool (mayB c gl (usesF c.kind))) ∧ Below w.heap.size w w' := by
  have e1 : Below w.heap.size w (w.alloc (.cells (clCells c A cap) 24)) := (Below.refl _ _).alloc (Nat.le_refl _) _
  have f1 : ClBlk (w.alloc (.cells (clCells c A cap) 24)) w.heap.size c A cap := ClBlk.new
  obtain ⟨w1, hw1⟩ : ∃ y, y = w.alloc (.cells (clCells c A cap) 24) := ⟨_, rfl⟩
  rw [← hw1] at e1 f1
  have z1 : w1.heap.size = w.heap.size + 1 := by rw [hw1]; simp
  obtain ⟨w2, hw2⟩ : ∃ y, y = w1.alloc (.cells #[.string s, .slice G gl.length gc] 26) := ⟨_, rfl⟩
  have e2 : Below w1.heap.size w1 w2 := by rw [hw2]; exact (Below.refl _ _).alloc (Nat.le_refl _) _
  have f2 : BlkT w2 w1.heap.size 26 #[.string s, .slice G gl.length gc] := by rw [hw2]; exact heap_alloc_new _ _
  have HB := Lib.hid (e1.trans (e2.mono e1.size))
  have hX := f1.below e2
  have g0 := hX.at.g0
  have HX := Lib.hid hX
  rw [z1] at f2
  have HGB := Lib.hid f2
  have b0 := f2.cell 0 _ rfl
  have b1 := f2.cell 1 _ rfl
  have HR := Lib.hid (hR.below HB.out)
  have HCG := Lib.hid (rgroup_any s G gc gl w2 (hG.below HB.out) hgl)
  have HU := Lib.hid (fun w => ruses_any c.kind w)
  rw [hS] at HU
  obtain ⟨u, hu⟩ : ∃ u : ByteArray, (⟨([99, 118, 111] : List UInt8).toArray⟩ : ByteArray) = u := ⟨_, rfl⟩
  rw [hu] at HU
  have dt : (u.toList == []) = false := by rw [← hu, ByteArray.toList_eq]; rfl
  have dt3 : (u.toList == [99, 112, 116]) = false := by rw [← hu, ByteArray.toList_eq]; rfl
  have HM := Lib.hid hM
  have HOP := Lib.hid hop
  have hc := fun w => rhas_any c.kind 99 w
  simp only [show (((99 : UInt8).toNat : Nat) : Int) = 99 from rfl, hS, show (([99, 118, 111] : List UInt8).contains 99) = true from rfl] at hc
  have HHc := Lib.hid hc
  clear hc
  have hp := fun w => rhas_any c.kind 112 w
  simp only [show (((112 : UInt8).toNat : Nat) : Int) = 112 from rfl, hS, show (([99, 118, 111] : List UInt8).contains 112) = false from rfl] at hp
  have HHp := Lib.hid hp
  clear hp
  have ht := fun w => rhas_any c.kind 116 w
  simp only [show (((116 : UInt8).toNat : Nat) : Int) = 116 from rfl, hS, show (([99, 118, 111] : List UInt8).contains 116) = false from rfl] at ht
  have HHt := Lib.hid ht
  clear ht
  have hs := fun w => rhas_any c.kind 115 w
  simp only [show (((115 : UInt8).toNat : Nat) : Int) = 115 from rfl, hS, show (([99, 118, 111] : List UInt8).contains 115) = false from rfl] at hs
  have HHs := Lib.hid hs
  clear hs
  have hr := fun w => rhas_any c.kind 114 w
  simp only [show (((114 : UInt8).toNat : Nat) : Int) = 114 from rfl, hS, show (([99, 118, 111] : List UInt8).contains 114) = false from rfl] at hr
  have HHr := Lib.hid hr
  clear hr
  have ho := fun w => rhas_any c.kind 111 w
  simp only [show (((111 : UInt8).toNat : Nat) : Int) = 111 from rfl, hS, show (([99, 118, 111] : List UInt8).contains 111) = true from rfl] at ho
  have HHo := Lib.hid ho
  clear ho
  have hl := fun w => rhas_any c.kind 108 w
  simp only [show (((108 : UInt8).toNat : Nat) : Int) = 108 from rfl, hS, show (([99, 118, 111] : List UInt8).contains 108) = false from rfl] at hl
  have HHl := Lib.hid hl
  clear hl
  clear hu hS hM hop
  go_enter Try.func8, Try.ntmps8
  go_upto_region 1 with fail
  rw [← hw1, ← hw2]
  clear hw1 hw2 e1 e2 f1 f2 z1 hR hG hX
  generalize w.heap.size + 1 = q1 at *
  go_wp2_with fail
  refine (HU.out _).mono ?_
  rintro e w2 ⟨rfl, rfl⟩
  obtain ⟨gb, hgb⟩ : ∃ x, groupB gl = x := ⟨_, rfl⟩
  rw [hgb] at HCG HM
  cases gb
  case false =>
    clear hgb dt3
    go_wp2_with fail
    refine HCG.out.mono ?_
    rintro e w3 ⟨rfl, hb3⟩
    have HB3 := Lib.hid (HB.out.trans (hb3.mono HB.out.size))
    clear hb3 b0 b1 g0 HCG
    go_wp2_with fail
    go_ret
    exact ⟨ret_bool (by rw [HM.out, Bool.false_and]), HB3.out⟩
  case true =>
    have HGT := Lib.hid hgb
    have hgpos : 1 ≤ gl.length := by
      unfold groupB at hgb
      simp only [Bool.and_eq_true, decide_eq_true_iff] at hgb
      exact hgb.2
    clear hgb
    go_wp2_with fail
    refine HCG.out.mono ?_
    rintro e w3 ⟨rfl, hb3⟩
    have HB3 := Lib.hid (HB.out.trans (hb3.mono HB.out.size))
    have HX3 := Lib.hid (HX.out.below hb3)
    have HGB3 := Lib.hid (HGB.out.below hb3)
    have HR3 := Lib.hid (HR.out.below hb3)
    clear hb3 b0 b1 g0 HCG HX HGB HR HB
    have x0 := HX3.out.at.g0
    have x1 := HX3.out.at.g1
    have x2 := HX3.out.at.g2
    have x3 := HX3.out.at.g3
    have x5 := HX3.out.at.g5
    have x6 := HX3.out.at.g6
    have x7 := HX3.out.at.g7
    have x8 := HX3.out.at.g8
    have b1 := HGB3.out.cell 1 _ rfl
    go_upto_region 4 with fail
    go_wp2_with fail
    refine (HU.out _).mono ?_
    rintro e w3 ⟨rfl, rfl⟩
    clear dt
    go_wp2_with (first | (with_reducible refine (HHc.out _).mono ?_; rintro e w3 ⟨rfl, rfl⟩) | (with_reducible refine (HHp.out _).mono ?_; rintro e w3 ⟨rfl, rfl⟩) | (with_reducible refine (HHt.out _).mono ?_; rintro e w3 ⟨rfl, rfl⟩) | (with_reducible refine (HHs.out _).mono ?_; rintro e w3 ⟨rfl, rfl⟩) | (with_reducible refine (HHr.out _).mono ?_; rintro e w3 ⟨rfl, rfl⟩) | (with_reducible refine (HHo.out _).mono ?_; rintro e w3 ⟨rfl, rfl⟩) | (with_reducible refine (HHl.out _).mono ?_; rintro e w3 ⟨rfl, rfl⟩))
    all_goals
      go_ret
      refine ⟨ret_bool ?_, HB3.out⟩
      rw [HM.out]
      first
      | (refine (Bool.eq_false_iff.2 ?_).symm; simp only [ne_eq, inB, Bool.and_eq_true, decide_eq_true_iff, Bool.true_and, Bool.and_true]; omega)
      | (refine Eq.symm ?_; simp only [inB, Bool.and_eq_true, decide_eq_true_iff, Bool.true_and, Bool.and_true]; omega)

set_option maxHeartbeats 32000000 in
set_option maxRecDepth 100000 in
theorem rmay_h (c : Cl) (A : Option Addr) (cap : Nat) (s : ByteArray) (G : Option Addr) (gc : Nat) (gl : List Int) (w : World) (hR : IntRow w A c.reqs) (hl : c.reqs.length ≤ 1000) (hop : 0 ≤ c.op ∧ c.op ≤ 255) (hG : IntRow w G gl) (hgl : gl.length ≤ 1000) (hS : usesS c.kind = [99, 107]) (hM : mayB c gl (usesF c.kind) = (groupB gl && (inB c.comm 0 31 && true && true))) :
    Calls Try.prog 8 #[.agg (clCells c A cap), .agg #[.string s, .slice G gl.length gc]] w fun e w' => e = .returned (.bool (mayB c gl (usesF c.kind))) ∧ Below w.heap.size w w' := by
  have e1 : Below w.heap.size w (w.alloc (.cells (clCells c A cap) 24)) := (Below.refl _ _).alloc (Nat.le_refl _) _
  have f1 : ClBlk (w.alloc (.cells (clCells c A cap) 24)) w.heap.size c A cap := ClBlk.new
  obtain ⟨w1, hw1⟩ : ∃ y, y = w.alloc (.cells (clCells c A cap) 24) := ⟨_, rfl⟩
  rw [← hw1] at e1 f1
  have z1 : w1.heap.size = w.heap.size + 1 := by rw [hw1]; simp
  obtain ⟨w2, hw2⟩ : ∃ y, y = w1.alloc (.cells #[.string s, .slice G gl.length gc] 26) := ⟨_, rfl⟩
  have e2 : Below w1.heap.size w1 w2 := by rw [hw2]; exact (Below.refl _ _).alloc (Nat.le_refl _) _
  have f2 : BlkT w2 w1.heap.size 26 #[.string s, .slice G gl.length gc] := by rw [hw2]; exact heap_alloc_new _ _
  have HB := Lib.hid (e1.trans (e2.mono e1.size))
  have hX := f1.below e2
  have g0 := hX.at.g0
  have HX := Lib.hid hX
  rw [z1] at f2
  have HGB := Lib.hid f2
  have b0 := f2.cell 0 _ rfl
  have b1 := f2.cell 1 _ rfl
  have HR := Lib.hid (hR.below HB.out)
  have HCG := Lib.hid (rgroup_any s G gc gl w2 (hG.below HB.out) hgl)
  have HU := Lib.hid (fun w => ruses_any c.kind w)
  rw [hS] at HU
  obtain ⟨u, hu⟩ : ∃ u : ByteArray, (⟨([99, 107] : List UInt8).toArray⟩ : ByteArray) = u := ⟨_, rfl⟩
  rw [hu] at HU
  have dt : (u.toList == []) = false := by rw [← hu, ByteArray.toList_eq]; rfl
  have dt3 : (u.toList == [99, 112, 116]) = false := by rw [← hu, ByteArray.toList_eq]; rfl
  have HM := Lib.hid hM
  have HOP := Lib.hid hop
  have hc := fun w => rhas_any c.kind 99 w
  simp only [show (((99 : UInt8).toNat : Nat) : Int) = 99 from rfl, hS, show (([99, 107] : List UInt8).contains 99) = true from rfl] at hc
  have HHc := Lib.hid hc
  clear hc
  have hp := fun w => rhas_any c.kind 112 w
  simp only [show (((112 : UInt8).toNat : Nat) : Int) = 112 from rfl, hS, show (([99, 107] : List UInt8).contains 112) = false from rfl] at hp
  have HHp := Lib.hid hp
  clear hp
  have ht := fun w => rhas_any c.kind 116 w
  simp only [show (((116 : UInt8).toNat : Nat) : Int) = 116 from rfl, hS, show (([99, 107] : List UInt8).contains 116) = false from rfl] at ht
  have HHt := Lib.hid ht
  clear ht
  have hs := fun w => rhas_any c.kind 115 w
  simp only [show (((115 : UInt8).toNat : Nat) : Int) = 115 from rfl, hS, show (([99, 107] : List UInt8).contains 115) = false from rfl] at hs
  have HHs := Lib.hid hs
  clear hs
  have hr := fun w => rhas_any c.kind 114 w
  simp only [show (((114 : UInt8).toNat : Nat) : Int) = 114 from rfl, hS, show (([99, 107] : List UInt8).contains 114) = false from rfl] at hr
  have HHr := Lib.hid hr
  clear hr
  have ho := fun w => rhas_any c.kind 111 w
  simp only [show (((111 : UInt8).toNat : Nat) : Int) = 111 from rfl, hS, show (([99, 107] : List UInt8).contains 111) = false from rfl] at ho
  have HHo := Lib.hid ho
  clear ho
  have hl := fun w => rhas_any c.kind 108 w
  simp only [show (((108 : UInt8).toNat : Nat) : Int) = 108 from rfl, hS, show (([99, 107] : List UInt8).contains 108) = false from rfl] at hl
  have HHl := Lib.hid hl
  clear hl
  clear hu hS hM hop
  go_enter Try.func8, Try.ntmps8
  go_upto_region 1 with fail
  rw [← hw1, ← hw2]
  clear hw1 hw2 e1 e2 f1 f2 z1 hR hG hX
  generalize w.heap.size + 1 = q1 at *
  go_wp2_with fail
  refine (HU.out _).mono ?_
  rintro e w2 ⟨rfl, rfl⟩
  obtain ⟨gb, hgb⟩ : ∃ x, groupB gl = x := ⟨_, rfl⟩
  rw [hgb] at HCG HM
  cases gb
  case false =>
    clear hgb dt3
    go_wp2_with fail
    refine HCG.out.mono ?_
    rintro e w3 ⟨rfl, hb3⟩
    have HB3 := Lib.hid (HB.out.trans (hb3.mono HB.out.size))
    clear hb3 b0 b1 g0 HCG
    go_wp2_with fail
    go_ret
    exact ⟨ret_bool (by rw [HM.out, Bool.false_and]), HB3.out⟩
  case true =>
    have HGT := Lib.hid hgb
    have hgpos : 1 ≤ gl.length := by
      unfold groupB at hgb
      simp only [Bool.and_eq_true, decide_eq_true_iff] at hgb
      exact hgb.2
    clear hgb
    go_wp2_with fail
    refine HCG.out.mono ?_
    rintro e w3 ⟨rfl, hb3⟩
    have HB3 := Lib.hid (HB.out.trans (hb3.mono HB.out.size))
    have HX3 := Lib.hid (HX.out.below hb3)
    have HGB3 := Lib.hid (HGB.out.below hb3)
    have HR3 := Lib.hid (HR.out.below hb3)
    clear hb3 b0 b1 g0 HCG HX HGB HR HB
    have x0 := HX3.out.at.g0
    have x1 := HX3.out.at.g1
    have x2 := HX3.out.at.g2
    have x3 := HX3.out.at.g3
    have x5 := HX3.out.at.g5
    have x6 := HX3.out.at.g6
    have x7 := HX3.out.at.g7
    have x8 := HX3.out.at.g8
    have b1 := HGB3.out.cell 1 _ rfl
    go_upto_region 4 with fail
    go_wp2_with fail
    refine (HU.out _).mono ?_
    rintro e w3 ⟨rfl, rfl⟩
    clear dt
    go_wp2_with (first | (with_reducible refine (HHc.out _).mono ?_; rintro e w3 ⟨rfl, rfl⟩) | (with_reducible refine (HHp.out _).mono ?_; rintro e w3 ⟨rfl, rfl⟩) | (with_reducible refine (HHt.out _).mono ?_; rintro e w3 ⟨rfl, rfl⟩) | (with_reducible refine (HHs.out _).mono ?_; rintro e w3 ⟨rfl, rfl⟩) | (with_reducible refine (HHr.out _).mono ?_; rintro e w3 ⟨rfl, rfl⟩) | (with_reducible refine (HHo.out _).mono ?_; rintro e w3 ⟨rfl, rfl⟩) | (with_reducible refine (HHl.out _).mono ?_; rintro e w3 ⟨rfl, rfl⟩))
    all_goals
      go_ret
      refine ⟨ret_bool ?_, HB3.out⟩
      rw [HM.out]
      first
      | (refine (Bool.eq_false_iff.2 ?_).symm; simp only [ne_eq, inB, Bool.and_eq_true, decide_eq_true_iff, Bool.true_and, Bool.and_true]; omega)
      | (refine Eq.symm ?_; simp only [inB, Bool.and_eq_true, decide_eq_true_iff, Bool.true_and, Bool.and_true]; omega)
set_option maxHeartbeats 32000000 in
set_option maxRecDepth 100000 in
theorem rmay_none (c : Cl) (A : Option Addr) (cap : Nat) (s : ByteArray) (G : Option Addr) (gc : Nat) (gl : List Int) (w : World) (hR : IntRow w A c.reqs) (hl : c.reqs.length ≤ 1000) (hop : 0 ≤ c.op ∧ c.op ≤ 255) (hG : IntRow w G gl) (hgl : gl.length ≤ 1000) (hS : usesS c.kind = []) (hM : mayB c gl (usesF c.kind) = false) :
    Calls Try.prog 8 #[.agg (clCells c A cap), .agg #[.string s, .slice G gl.length gc]] w fun e w' => e = .returned (.bool (mayB c gl (usesF c.kind))) ∧ Below w.heap.size w w' := by
  have e1 : Below w.heap.size w (w.alloc (.cells (clCells c A cap) 24)) := (Below.refl _ _).alloc (Nat.le_refl _) _
  have f1 : ClBlk (w.alloc (.cells (clCells c A cap) 24)) w.heap.size c A cap := ClBlk.new
  obtain ⟨w1, hw1⟩ : ∃ y, y = w.alloc (.cells (clCells c A cap) 24) := ⟨_, rfl⟩
  rw [← hw1] at e1 f1
  have z1 : w1.heap.size = w.heap.size + 1 := by rw [hw1]; simp
  obtain ⟨w2, hw2⟩ : ∃ y, y = w1.alloc (.cells #[.string s, .slice G gl.length gc] 26) := ⟨_, rfl⟩
  have e2 : Below w1.heap.size w1 w2 := by rw [hw2]; exact (Below.refl _ _).alloc (Nat.le_refl _) _
  have f2 : BlkT w2 w1.heap.size 26 #[.string s, .slice G gl.length gc] := by rw [hw2]; exact heap_alloc_new _ _
  have HB := Lib.hid (e1.trans (e2.mono e1.size))
  have hX := f1.below e2
  have g0 := hX.at.g0
  have HX := Lib.hid hX
  rw [z1] at f2
  have HGB := Lib.hid f2
  have b0 := f2.cell 0 _ rfl
  have b1 := f2.cell 1 _ rfl
  have HR := Lib.hid (hR.below HB.out)
  have HCG := Lib.hid (rgroup_any s G gc gl w2 (hG.below HB.out) hgl)
  have HU := Lib.hid (fun w => ruses_any c.kind w)
  rw [hS] at HU
  obtain ⟨u, hu⟩ : ∃ u : ByteArray, (⟨([] : List UInt8).toArray⟩ : ByteArray) = u := ⟨_, rfl⟩
  rw [hu] at HU
  have dt : (u.toList == []) = true := by rw [← hu, ByteArray.toList_eq]; rfl
  have HM := Lib.hid hM
  clear hu hS hM hop
  go_enter Try.func8, Try.ntmps8
  go_upto_region 1 with fail
  rw [← hw1, ← hw2]
  clear hw1 hw2 e1 e2 f1 f2 z1 hR hG hX
  generalize w.heap.size + 1 = q1 at *
  go_wp2_with fail
  refine (HU.out _).mono ?_
  rintro e w2 ⟨rfl, rfl⟩
  go_wp2_with fail
  go_ret
  exact ⟨ret_bool HM.out.symm, HB.out⟩
set_option maxHeartbeats 4000000 in
theorem rmay_any (c : Cl) (A : Option Addr) (cap : Nat) (s : ByteArray) (G : Option Addr) (gc : Nat) (gl : List Int) (w : World) (hR : IntRow w A c.reqs) (hl : c.reqs.length ≤ 1000) (hop : 0 ≤ c.op ∧ c.op ≤ 255) (hG : IntRow w G gl) (hgl : gl.length ≤ 1000) :
    Calls Try.prog 8 #[.agg (clCells c A cap), .agg #[.string s, .slice G gl.length gc]] w fun e w' => e = .returned (.bool (mayB c gl (usesF c.kind))) ∧ Below w.heap.size w w' := by
  by_cases k1 : c.kind = 1 ∨ c.kind = 2 ∨ c.kind = 3 ∨ c.kind = 4 ∨ c.kind = 5
  · exact rmay_a c A cap s G gc gl w hR hl hop hG hgl (by unfold usesS; rw [if_pos k1]) (by rw [show usesF c.kind = some [0, 1, 2, 3, 4] by unfold usesF; rw [if_pos k1]]; have ha : anyK c.kind = 0 := (by unfold anyK openK; rw [if_neg (by simp; omega)]); simp [mayB, fieldB, ha, Bool.and_assoc])
  by_cases k2 : c.kind = 6 ∨ c.kind = 7 ∨ c.kind = 13 ∨ c.kind = 14
  · exact rmay_b c A cap s G gc gl w hR hl hop hG hgl (by unfold usesS; rw [if_neg k1, if_pos k2]) (by rw [show usesF c.kind = some [0, 1, 2] by unfold usesF; rw [if_neg k1, if_pos k2]]; have ha : anyK c.kind = -1 := (by unfold anyK openK; rw [if_pos (by simp; omega)]); simp [mayB, fieldB, ha, Bool.and_assoc])
  by_cases k3 : c.kind = 8 ∨ c.kind = 9 ∨ c.kind = 10 ∨ c.kind = 11 ∨ c.kind = 12
  · exact rmay_c c A cap s G gc gl w hR hl hop hG hgl (by unfold usesS; rw [if_neg k1, if_neg k2, if_pos k3]) (by rw [show usesF c.kind = some [8] by unfold usesF; rw [if_neg k1, if_neg k2, if_pos k3]]; have ha : anyK c.kind = 0 := (by unfold anyK openK; rw [if_neg (by simp; omega)]); simp [mayB, fieldB, ha, Bool.and_assoc])
  by_cases k4 : c.kind = 15 ∨ c.kind = 20 ∨ c.kind = 22
  · exact rmay_d c A cap s G gc gl w hR hl hop hG hgl (by unfold usesS; rw [if_neg k1, if_neg k2, if_neg k3, if_pos k4]) (by rw [show usesF c.kind = some [0] by unfold usesF; rw [if_neg k1, if_neg k2, if_neg k3, if_pos k4]]; have ha : anyK c.kind = 0 := (by unfold anyK openK; rw [if_neg (by simp; omega)]); simp [mayB, fieldB, ha, Bool.and_assoc])
  by_cases k5 : c.kind = 16 ∨ c.kind = 19
  · exact rmay_e c A cap s G gc gl w hR hl hop hG hgl (by unfold usesS; rw [if_neg k1, if_neg k2, if_neg k3, if_neg k4, if_pos k5]) (by rw [show usesF c.kind = some [0, 5, 3] by unfold usesF; rw [if_neg k1, if_neg k2, if_neg k3, if_neg k4, if_pos k5]]; have ha : anyK c.kind = 0 := (by unfold anyK openK; rw [if_neg (by simp; omega)]); simp [mayB, fieldB, ha, Bool.and_assoc])
  by_cases k6 : c.kind = 17
  · exact rmay_f c A cap s G gc gl w hR hl hop hG hgl (by unfold usesS; rw [if_neg k1, if_neg k2, if_neg k3, if_neg k4, if_neg k5, if_pos k6]) (by rw [show usesF c.kind = some [0, 5, 3, 9] by unfold usesF; rw [if_neg k1, if_neg k2, if_neg k3, if_neg k4, if_neg k5, if_pos k6]]; have ha : anyK c.kind = 0 := (by unfold anyK openK; rw [if_neg (by simp; omega)]); simp [mayB, fieldB, ha, Bool.and_assoc])
  by_cases k7 : c.kind = 18
  · exact rmay_g c A cap s G gc gl w hR hl hop hG hgl (by unfold usesS; rw [if_neg k1, if_neg k2, if_neg k3, if_neg k4, if_neg k5, if_neg k6, if_pos k7]) (by rw [show usesF c.kind = some [0, 3, 9] by unfold usesF; rw [if_neg k1, if_neg k2, if_neg k3, if_neg k4, if_neg k5, if_neg k6, if_pos k7]]; have ha : anyK c.kind = 0 := (by unfold anyK openK; rw [if_neg (by simp; omega)]); simp [mayB, fieldB, ha, Bool.and_assoc])
  by_cases k8 : c.kind = 21
  · exact rmay_h c A cap s G gc gl w hR hl hop hG hgl (by unfold usesS; rw [if_neg k1, if_neg k2, if_neg k3, if_neg k4, if_neg k5, if_neg k6, if_neg k7, if_pos k8]) (by rw [show usesF c.kind = some [0, 6, 7] by unfold usesF; rw [if_neg k1, if_neg k2, if_neg k3, if_neg k4, if_neg k5, if_neg k6, if_neg k7, if_pos k8]]; have ha : anyK c.kind = 0 := (by unfold anyK openK; rw [if_neg (by simp; omega)]); simp [mayB, fieldB, ha, Bool.and_assoc])
  exact rmay_none c A cap s G gc gl w hR hl hop hG hgl (by unfold usesS; rw [if_neg k1, if_neg k2, if_neg k3, if_neg k4, if_neg k5, if_neg k6, if_neg k7, if_neg k8]) (by rw [show usesF c.kind = none by unfold usesF; rw [if_neg k1, if_neg k2, if_neg k3, if_neg k4, if_neg k5, if_neg k6, if_neg k7, if_neg k8]]; rfl)
end Go.Proofs.Ytgphigpbgiceiaa
