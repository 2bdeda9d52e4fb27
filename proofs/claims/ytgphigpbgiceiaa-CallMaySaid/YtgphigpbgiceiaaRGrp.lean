/- The walk of the reference's mayGroup; the inner loop over what came before, for it and for May. -/
import Derived.Test.YtgphigpbgiceiaaGrpMay
namespace Go.Proofs.Ytgphigpbgiceiaa
open Go.RowKit Go.Sort
set_option linter.unusedVariables false
set_option linter.unusedSimpArgs false

theorem len_parts (p : Int → Bool) : ∀ l : List Int, l.length = (l.filter p).length + (l.filter fun x => !p x).length
  | [] => rfl
  | x :: l => by
    have ih := len_parts p l
    cases h : p x
    · simp [h]
      omega
    · simp [h]
      omega
theorem nodup_bound : ∀ (n : Nat) (l : List Int), l.Nodup → (∀ x ∈ l, 0 ≤ x ∧ x < n) → l.length ≤ n
  | 0, l, hn, h => by
    cases l with
    | nil => exact Nat.le_refl _
    | cons x l =>
      have := h x (by simp)
      omega
  | n + 1, l, hn, h => by
    have h1 := nodup_bound n (l.filter fun x => decide (x ≠ (n : Int))) (hn.sublist List.filter_sublist) (fun x hx => by
      rw [List.mem_filter] at hx
      have := h x hx.1
      have h2 := hx.2
      simp at h2
      omega)
    have h3 : (l.filter fun x => !decide (x ≠ (n : Int))).length ≤ 1 := by
      have hd : (l.filter fun x => !decide (x ≠ (n : Int))).Nodup := hn.sublist List.filter_sublist
      match hf : l.filter fun x => !decide (x ≠ (n : Int)), hd with
      | [], _ => simp
      | [a], _ => simp
      | a :: b :: r, hd =>
        have ha : a ∈ l.filter fun x => !decide (x ≠ (n : Int)) := by rw [hf]; simp
        have hb : b ∈ l.filter fun x => !decide (x ≠ (n : Int)) := by rw [hf]; simp
        rw [List.mem_filter] at ha hb
        have e1 := ha.2
        have e2 := hb.2
        simp at e1 e2
        subst e1
        subst e2
        simp at hd
    have h4 := len_parts (fun x => decide (x ≠ (n : Int))) l
    omega
theorem groupB_long (l : List Int) (h : 64 < l.length) : groupB l = false := by
  cases hg : groupB l with
  | false => rfl
  | true =>
    unfold groupB at hg
    simp only [Bool.and_eq_true, List.all_eq_true, decide_eq_true_iff] at hg
    have := nodup_bound 64 l hg.1.2 hg.1.1
    omega

set_option maxHeartbeats 8000000 in
set_option maxRecDepth 100000 in
theorem rgroup_any (s : ByteArray) (A : Option Addr) (cap : Nat) (l : List Int) (w : World) (hR : IntRow w A l) (hl : l.length ≤ 1000) :
    Calls Try.prog 25 #[.agg #[.string s, .slice A l.length cap]] w fun e w' => e = .returned (.bool (groupB l)) ∧ Below w.heap.size w w' := by
  obtain ⟨w1, hw1⟩ : ∃ y, y = w.alloc (.cells #[.string s, .slice A l.length cap] 26) := ⟨_, rfl⟩
  have e1 : Below w.heap.size w w1 := by rw [hw1]; exact (Below.refl _ _).alloc (Nat.le_refl _) _
  have f1 : BlkT w1 w.heap.size 26 #[.string s, .slice A l.length cap] := by rw [hw1]; exact heap_alloc_new _ _
  have HB := Lib.hid e1
  have g1 := f1.cell 1 _ rfl
  have HX := Lib.hid f1
  have HR := Lib.hid (hR.below e1)
  go_enter Try.func25, Try.ntmps25
  go_upto_region 1 with fail
  rw [← hw1]
  clear hw1 e1 f1 hR
  clear g1
  go_wp2_with fail
  go_loopg [3] (l.length + 1) (fun g2 i wx => ∃ k : Nat, i = .int .i64 k ∧ k ≤ l.length ∧ k ≤ 65 ∧ l.length - k < g2 ∧ Hid (OkUpto l k) ∧ Hid (Below w1.heap.size w1 wx))
  case atStart => exact ⟨0, rfl, by omega, by omega, by omega, Lib.hid ⟨by simp, by simp⟩, Lib.hid (Below.refl _ _)⟩
  case round =>
    obtain ⟨k, rfl, hk, hk65, hg, HOK, HBX⟩ := hrel
    obtain ⟨g, rfl⟩ : ∃ g, gk = g + 1 := ⟨gk - 1, by omega⟩
    have HBB := Lib.hid (HB.out.trans (HBX.out.mono HB.out.size))
    have HXW := Lib.hid (HX.out.below HBX.out)
    have g1 := HXW.out.cell 1 _ rfl
    by_cases hlt : k < l.length
    · by_cases h65 : k < 65
      · obtain ⟨b, o, rfl, hbl, c0⟩ := (HR.out.below HBX.out) k hlt
        have HRX := Lib.hid (HR.out.below HBX.out)
        have HBAD := Lib.hid (groupB_bad l k hlt)
        have HSUC := Lib.hid (okUpto_succ HOK.out hlt)
        have HGE := Lib.hid (show ∀ i (hi : i < l.length), i < k → l[i] = l[k] → l[k] ∈ l.take k from fun i hi hik he => by
          rw [← he]
          exact List.mem_iff_getElem.2 ⟨i, by rw [List.length_take]; omega, List.getElem_take⟩)
        have HTK := Lib.hid (show ∀ x ∈ l.take k, ∃ i, ∃ hi : i < l.length, i < k ∧ l[i] = x from fun x hx => by
          obtain ⟨i, hi, rfl⟩ := List.getElem_of_mem hx
          rw [List.length_take] at hi
          exact ⟨i, by omega, by omega, by simp⟩)
        clear hbl
        have HC0 := Lib.hid c0
        have HRF := Lib.hid (fun (j : Nat) (hj : j < l.length) => HRX.out j hj)
        generalize hxk : l[k] = x at *
        have HXK := Lib.hid hxk
        clear hxk
        have hdl : decide (k < l.length) = true := by simp; omega
        have hd65 : decide ((k : Int) < 65) = true := by simp; omega
        by_cases h0 : x < 0
        · have hd : decide (x < 0) = true := by simpa using h0
          have HF := Lib.hid (HBAD.out (Or.inl h0))
          clear h0
          go_wp2_with fail
          go_ret
          exact ⟨ret_bool HF.out.symm, HBB.out⟩
        · have hd : decide (x < 0) = false := by simpa using h0
          by_cases h1 : 64 ≤ x
          · have hd1 : decide (63 < x) = true := by simp; omega
            have HF := Lib.hid (HBAD.out (Or.inr (Or.inl h1)))
            clear h0 h1
            go_wp2_with fail
            go_ret
            exact ⟨ret_bool HF.out.symm, HBB.out⟩
          · have hd1 : decide (63 < x) = false := by simp; omega
            have HSUC2 := Lib.hid (HSUC.out (by omega) (by omega))
            clear h0 h1
            go_upto_region 6 with fail
            clear c0 hd1 hd
            go_wp2_with fail
            go_loopg [4] (k + 1) (fun g3 i wy => ∃ j : Nat, i = .int .i64 j ∧ j ≤ k ∧ k - j < g3 ∧ Hid (∀ i (hi : i < l.length), i < j → l[i] ≠ x) ∧ Hid (Below wr.heap.size wr wy))
            case atStart => exact ⟨0, rfl, by omega, by omega, Lib.hid (fun i hi hj => by omega), Lib.hid (Below.refl _ _)⟩
            case round =>
              obtain ⟨j, rfl, hj, hg3, HNE, HBY⟩ := hrel
              obtain ⟨g3, rfl⟩ : ∃ g3', gk = g3' + 1 := ⟨gk - 1, by omega⟩
              have HBBY := Lib.hid (HBB.out.trans (HBY.out.mono HBB.out.size))
              have HBXY := Lib.hid (HBX.out.trans (HBY.out.mono HBX.out.size))
              by_cases hjk : j < k
              · have hdj : decide (j < k) = true := by simpa using hjk
                have g1 := (HXW.out.below HBY.out).cell 1 _ rfl
                have cx := cell_later HBY.out HC0.out
                have hjl : j < l.length := by omega
                obtain ⟨b2, o2, eb, _, cj⟩ := (HRX.out.below HBY.out) j hjl
                cases eb
                have HNJ := Lib.hid (fun (h : l[j] ≠ x) => show ∀ i (hi : i < l.length), i < j + 1 → l[i] ≠ x from fun i hi hij => by
                  rcases Nat.lt_or_eq_of_le (Nat.le_of_lt_succ hij) with h1 | rfl
                  · exact HNE.out i hi h1
                  · exact h)
                have HJ := Lib.hid (fun (h : l[j] = x) => HBAD.out (Or.inr (Or.inr (HGE.out j hjl hjk h))))
                generalize l[j] = y at *
                by_cases hyx : y = x
                · subst hyx
                  have HF := Lib.hid (HJ.out rfl)
                  go_upto_region 9 with fail
                  go_quiet (fail)
                  go_wp2_with fail
                  go_ret
                  exact ⟨ret_bool HF.out.symm, below_drewN HBBY.out _⟩
                · have hde : (y == x) = false := by simpa using hyx
                  have HNJ2 := Lib.hid (HNJ.out hyx)
                  clear hyx
                  go_upto_region 9 with fail
                  go_quiet (fail)
                  clear cx cj
                  go_wp2_with fail
                  go_roundg g3
                  case measure => omega
                  case rel => exact ⟨j + 1, by go_num, by omega, by omega, HNJ2, Lib.hid (below_drewN HBY.out _)⟩
              · obtain rfl : j = k := by omega
                have hdj : decide (j < j) = false := by simp
                have HOK2 := Lib.hid (HSUC2.out (fun hm => by
                  obtain ⟨i, hi, hij, he⟩ := HTK.out x hm
                  exact HNE.out i hi hij he))
                go_wp2_with fail
                go_roundg g
                case measure => omega
                case rel => exact ⟨j + 1, by go_num, by omega, by omega, by omega, HOK2, HBXY⟩
      · obtain rfl : k = 65 := by omega
        have HF := Lib.hid (groupB_long l (by omega))
        have hdl : decide (65 < l.length) = true := by simp; omega
        have hd64 : decide ((l.length : Int) ≤ 64) = false := by simp; omega
        have hd1 : decide ((1 : Int) ≤ (l.length : Int)) = true := by simp; omega
        go_wp2_with fail
        go_ret
        exact ⟨ret_bool HF.out.symm, HBB.out⟩
    · obtain rfl : k = l.length := by omega
      have HF := Lib.hid (groupB_good l HOK.out)
      have hdl : decide (l.length < l.length) = false := by simp
      have h64 : l.length ≤ 64 := by
        have h := HOK.out
        unfold OkUpto at h
        rw [List.take_length] at h
        exact nodup_bound 64 l h.2 h.1
      by_cases h1 : 1 ≤ l.length
      · have hd1 : decide ((1 : Int) ≤ (l.length : Int)) = true := by simp; omega
        have hd2 : decide ((l.length : Int) ≤ 64) = true := by simp; omega
        have HE := Lib.hid (show decide (0 < l.length) = true from decide_eq_true (by omega))
        clear h1 h64
        go_wp2_with fail
        go_ret
        exact ⟨ret_bool (by rw [HF.out, HE.out]), HBB.out⟩
      · have hd1 : decide ((1 : Int) ≤ (l.length : Int)) = false := by simp; omega
        have HE := Lib.hid (show decide (0 < l.length) = false from decide_eq_false (by omega))
        clear h1 h64
        go_wp2_with fail
        go_ret
        exact ⟨ret_bool (by rw [HF.out, HE.out]), HBB.out⟩
end Go.Proofs.Ytgphigpbgiceiaa
