/- The walks of dispatcherref05.split, number, op. -/
import Derived.Test.YtaanhkepimjelaaDoorCodeN
import Derived.Test.YtaanhkepimjelaaDoorCodeD
namespace Go.Proofs.YtaanhkepimjelaaDoor
open Go.RowKit Go.Sort
set_option linter.unusedVariables false
set_option linter.unusedSimpArgs false

theorem Tryd.infoStr : (Tryd.prog.info? 9).map (fun i => (i.zero, i.size, i.bytes)) = some (some (.string ⟨#[]⟩), 1, 16) := by kernel_rfl

/-- What a splitting has done when it stands at place k, its last part begun at m. -/
def SpInv (c : UInt8) (l : List UInt8) (LB : List ByteArray) (m k : Nat) : Prop := (k ≤ l.length → splitC c l = LB.map (·.data.toList) ++ splitC c (l.drop m) ∧ c ∉ (l.drop m).take (k - m)) ∧ (l.length < k → splitC c l = LB.map (·.data.toList))
theorem spInv_start (c : UInt8) (l : List UInt8) : SpInv c l [] 0 0 := ⟨fun _ => ⟨by simp, by simp⟩, fun h => by omega⟩
theorem take_step {l : List UInt8} {m k : Nat} (hm : m ≤ k) (hk : k < l.length) : (l.drop m).take (k + 1 - m) = (l.drop m).take (k - m) ++ [l[k]] := by
  have h : k - m < (l.drop m).length := by rw [List.length_drop]; omega
  rw [show k + 1 - m = k - m + 1 by omega, List.take_succ_eq_append_getElem h]
  congr 2
  rw [List.getElem_drop]
  congr 1
  omega
theorem spInv_skip {c : UInt8} {l : List UInt8} {LB : List ByteArray} {m k : Nat} (h : SpInv c l LB m k) (hm : m ≤ k) (hk : k < l.length) (hc : l[k] ≠ c) : SpInv c l LB m (k + 1) := by
  obtain ⟨h1, h2⟩ := h.1 (by omega)
  refine ⟨fun _ => ⟨h1, fun hin => ?_⟩, fun h => by omega⟩
  rw [take_step hm hk] at hin
  rcases List.mem_append.1 hin with h3 | h3
  · exact h2 h3
  · exact hc (List.mem_singleton.1 h3).symm
theorem drop_cut {l : List UInt8} {m k : Nat} (hm : m ≤ k) (hk : k < l.length) : l.drop m = (l.drop m).take (k - m) ++ l[k] :: l.drop (k + 1) := by
  have e := List.take_append_drop (k - m) (l.drop m)
  rw [List.drop_drop, show m + (k - m) = k by omega, List.drop_eq_getElem_cons hk] at e
  exact e.symm
theorem spInv_cut {c : UInt8} {s : ByteArray} {LB : List ByteArray} {m k : Nat} (h : SpInv c s.data.toList LB m k) (hm : m ≤ k) (hk : k < s.data.toList.length) (hc : s.data.toList[k] = c) : SpInv c s.data.toList (LB ++ [s.extract m k]) (k + 1) (k + 1) := by
  obtain ⟨h1, h2⟩ := h.1 (by omega)
  have e : (s.extract m k).data.toList = (s.data.toList.drop m).take (k - m) := by rw [Lib.extract_data]
  refine ⟨fun _ => ⟨?_, by simp⟩, fun h => ?_⟩
  · rw [h1, drop_cut hm hk, hc, splitC_app c _ h2]
    simp [e]
  · have h3 : k + 1 = s.data.toList.length + 1 := by omega
    omega
theorem spInv_end {c : UInt8} {s : ByteArray} {LB : List ByteArray} {m k : Nat} (h : SpInv c s.data.toList LB m k) (hm : m ≤ k) (hk : k = s.data.toList.length) : SpInv c s.data.toList (LB ++ [s.extract m k]) (k + 1) (k + 1) := by
  obtain ⟨h1, h2⟩ := h.1 (by omega)
  have e : (s.extract m k).data.toList = (s.data.toList.drop m).take (k - m) := by rw [Lib.extract_data]
  have e2 : (s.data.toList.drop m).take (k - m) = s.data.toList.drop m := by
    rw [List.take_of_length_le]
    rw [List.length_drop]
    omega
  refine ⟨fun h => by omega, fun _ => ?_⟩
  rw [e2] at h2
  rw [h1, splitC_no c h2]
  simp [e, e2]

set_option maxHeartbeats 4000000 in
set_option maxRecDepth 100000 in
theorem split_any (c : UInt8) (s : ByteArray) (hs : s.size ≤ 100000) (w : World) :
    Calls Tryd.prog 47 #[.string s, .int .u8 (c.toNat : Int)] w fun e w' => ∃ (A : Option Addr) (cA : Nat) (LB : List ByteArray), e = .returned (.slice A LB.length cA) ∧ LB.map (·.data.toList) = splitC c s.data.toList ∧ w'.ownsRow w.heap.size 9 1 (.slice A LB.length cA) LB.length (LB.map Value.string) ∧ Below w.heap.size w w' := by
  obtain ⟨i1, hi1, hz01, hz11, hz21⟩ := info_parts Tryd.infoStr
  have H1 := Lib.hid (And.intro hi1 (And.intro hz01 (And.intro hz11 hz21)))
  clear hi1 hz01 hz11 hz21
  have HLEN := Lib.hid (show s.data.toList.length = s.size by simp)
  have HAT := Lib.hid (fun (k : Nat) (h1 : k < s.data.toList.length) (h2 : k < s.size) => (show s.data.toList[k] = s[k] from rfl))
  go_enter Tryd.func47, Tryd.ntmps47
  go_wp2_with fail
  go_loopg [5, 6, 7] (s.size + 2) (fun g t f i wx => ∃ (k m n cA : Nat) (Av : Option Addr) (LB : List ByteArray), t = .slice Av n cA ∧ f = .int .i64 m ∧ i = .int .i64 k ∧ k ≤ s.size + 1 ∧ m ≤ k ∧ n ≤ k ∧ s.size + 1 - k < g ∧ Hid (n = LB.length) ∧ Hid (wx.ownsRow w.heap.size 9 1 (.slice Av n cA) n (LB.map Value.string)) ∧ Hid (SpInv c s.data.toList LB m k) ∧ Hid (Below w.heap.size w wx))
  case atStart => exact ⟨0, 0, 0, 0, none, [], rfl, rfl, rfl, by omega, by omega, by omega, by omega, rfl, World.ownsRow_nil _ _ _ _, spInv_start _ _, Below.refl _ _⟩
  case round =>
    obtain ⟨k, m, n, cA, Av, LB, rfl, rfl, rfl, hk, hmk, hnk, hg, HN, HO, HS, HB⟩ := hrel
    obtain ⟨g, rfl⟩ : ∃ g, gk = g + 1 := ⟨gk - 1, by omega⟩
    have step : ∀ (x : ByteArray), True := fun _ => trivial
    clear step
    by_cases hlt : k < s.size
    · have hll : k < s.data.toList.length := by rw [HLEN.out]; exact hlt
      by_cases hc : s[k] = c
      · have HSN := Lib.hid (spInv_cut HS.out hmk hll (by rw [HAT.out k hll hlt]; exact hc))
        have ht : (((s[k]'hlt).toNat : Int) == (c.toNat : Int)) = true := by rw [hc]; simp
        clear hc hll
        have HO7 := Lib.hid (HO.out.alloc (.cells #[.string (s.extract m k)] 9))
        have HB7 := Lib.hid (HB.out.alloc HB.out.size (.cells #[.string (s.extract m k)] 9))
        have HNEWS := Lib.hid (World.news_of_block (w := wr.alloc (.cells #[.string (s.extract m k)] 9)) (B := wr.heap.size) (cs := #[.string (s.extract m k)]) (t := 9) (fr := (0, 0)) (heap_alloc_new _ _))
        have HONE := Lib.hid (show ∀ y ∈ [Value.string (s.extract m k)], y.oneCell' = true by simp [Value.oneCell'])
        have H63 := Lib.hid (show n + 1 ≤ maxLen by unfold maxLen; omega)
        have HBY := Lib.hid (show (n + 1) * 16 ≤ 140737488355328 by omega)
        have HBASE := Lib.hid HB7.out.size
        go_wp2_with (at_builtin; refine wpList_append_lies _ rfl (.tmp 25) (.tmp 30) 77 rfl w.heap.size 9 i1 _ 1 16 Tryd.underlying77 H1.out.1 H1.out.2.1 H1.out.2.2.1 H1.out.2.2.2 rfl (by decide) (.slice Av n cA) n _ rfl HO7.out ⟨wr.heap.size, 0, none⟩ 1 1 [Value.string (s.extract m k)] rfl rfl HNEWS.out HONE.out (by decide) H63.out HBY.out HBASE.out _ rfl ?_)
        intro g3 cap w8 hown hgrow hat hlt8
        have HO8 := Lib.hid (show w8.ownsRow w.heap.size 9 1 (.slice (some ⟨g3, 0, none⟩) (n + 1) cap) (n + 1) ((LB ++ [(s.extract m k)]).map Value.string) by rw [List.map_append]; exact hown)
        have HB8 := Lib.hid (below_grown5 HB7.out hgrow HBASE.out (fun g hg => (HO7.out.lt g hg).1))
        clear hown hgrow hat hlt8 HO7 HB7 HNEWS HONE H63 HBY HBASE HO HB HS
        go_wp2_with fail
        go_roundg g
        case measure => omega
        case rel => exact ⟨k + 1, k + 1, n + 1, cap, some ⟨g3, 0, none⟩, LB ++ [(s.extract m k)], rfl, by go_num, by go_num, by omega, by omega, by omega, by omega, Lib.hid (by rw [List.length_append, ← HN.out]; rfl), HO8, HSN, HB8⟩
      · have HSN := Lib.hid (spInv_skip HS.out hmk hll (by rw [HAT.out k hll hlt]; exact hc))
        have ht : (((s[k]'hlt).toNat : Int) == (c.toNat : Int)) = false := by
          rw [beq_eq_false_iff_ne]
          intro h
          exact hc (UInt8.toNat_inj.1 (by omega))
        clear hc hll HS
        go_wp2_with fail
        go_roundg g
        case measure => omega
        case rel => exact ⟨k + 1, m, n, cA, Av, LB, rfl, rfl, by go_num, by omega, by omega, by omega, by omega, HN, HO, HSN, HB⟩
    · by_cases he : k = s.size
      · have HSN := Lib.hid (spInv_end HS.out hmk (by rw [HLEN.out]; exact he))
        subst he
        clear hlt
        have HO7 := Lib.hid (HO.out.alloc (.cells #[.string (s.extract m s.size)] 9))
        have HB7 := Lib.hid (HB.out.alloc HB.out.size (.cells #[.string (s.extract m s.size)] 9))
        have HNEWS := Lib.hid (World.news_of_block (w := wr.alloc (.cells #[.string (s.extract m s.size)] 9)) (B := wr.heap.size) (cs := #[.string (s.extract m s.size)]) (t := 9) (fr := (0, 0)) (heap_alloc_new _ _))
        have HONE := Lib.hid (show ∀ y ∈ [Value.string (s.extract m s.size)], y.oneCell' = true by simp [Value.oneCell'])
        have H63 := Lib.hid (show n + 1 ≤ maxLen by unfold maxLen; omega)
        have HBY := Lib.hid (show (n + 1) * 16 ≤ 140737488355328 by omega)
        have HBASE := Lib.hid HB7.out.size
        go_wp2_with (at_builtin; refine wpList_append_lies _ rfl (.tmp 25) (.tmp 30) 77 rfl w.heap.size 9 i1 _ 1 16 Tryd.underlying77 H1.out.1 H1.out.2.1 H1.out.2.2.1 H1.out.2.2.2 rfl (by decide) (.slice Av n cA) n _ rfl HO7.out ⟨wr.heap.size, 0, none⟩ 1 1 [Value.string (s.extract m s.size)] rfl rfl HNEWS.out HONE.out (by decide) H63.out HBY.out HBASE.out _ rfl ?_)
        intro g3 cap w8 hown hgrow hat hlt8
        have HO8 := Lib.hid (show w8.ownsRow w.heap.size 9 1 (.slice (some ⟨g3, 0, none⟩) (n + 1) cap) (n + 1) ((LB ++ [(s.extract m s.size)]).map Value.string) by rw [List.map_append]; exact hown)
        have HB8 := Lib.hid (below_grown5 HB7.out hgrow HBASE.out (fun g hg => (HO7.out.lt g hg).1))
        clear hown hgrow hat hlt8 HO7 HB7 HNEWS HONE H63 HBY HBASE HO HB HS
        go_wp2_with fail
        go_roundg g
        case measure => omega
        case rel => exact ⟨s.size + 1, s.size + 1, n + 1, cap, some ⟨g3, 0, none⟩, LB ++ [(s.extract m s.size)], rfl, by go_num, by go_num, by omega, by omega, by omega, by omega, Lib.hid (by rw [List.length_append, ← HN.out]; rfl), HO8, HSN, HB8⟩
      · have hks : k = s.size + 1 := by omega
        have HE := Lib.hid (HS.out.2 (by rw [HLEN.out]; omega))
        have hn := HN.out
        subst hn
        clear hlt he
        go_wp2_with fail
        go_ret
        exact ⟨Av, cA, LB, rfl, HE.out.symm, HO.out, HB.out⟩

/-- What number tells: the number whose own text it is, or none. -/
def NumSaid (l : List UInt8) (n : Int) (b : Bool) : Prop := (-9223372036854775808 ≤ n ∧ n ≤ 9223372036854775807) ∧ (b = true → Lib.itoa n = l) ∧ (b = false → ∀ v, ¬ NumIs l v)
def Num5 (s : ByteArray) (w : World) (e : Ending) (w' : World) : Prop := ∃ (n : Int) (b : Bool), e = .returned (.tuple #[.int .i64 n, .bool b]) ∧ NumSaid s.data.toList n b ∧ Below w.heap.size w w'

set_option maxHeartbeats 4000000 in
set_option maxRecDepth 100000 in
theorem number5_any (s : ByteArray) (hs : s.size ≤ 100000) (w : World) :
    Calls Tryd.prog 48 #[.string s] w fun e w' => Num5 s w e w' := by
  have HLEN := Lib.hid (show s.data.toList.length = s.size by simp)
  rcases Nat.eq_zero_or_pos s.size with h0 | h0
  · have HNO := Lib.hid (show ∀ v, ¬ NumIs s.data.toList v from fun v h => by
      have h1 := (numIs_parts h).2.1
      have h2 : s.data.toList = [] := List.eq_nil_of_length_eq_zero (by rw [HLEN.out]; exact h0)
      rw [h2] at h1
      simp [digitsOf] at h1)
    go_enter Tryd.func48, Tryd.ntmps48
    go_wp2_with fail
    go_ret2
    exact ⟨0, false, rfl, ⟨by decide, (fun h => by cases h), fun _ => HNO.out⟩, Below.refl _ _⟩
  · have hl0 : 0 < s.data.toList.length := by rw [HLEN.out]; exact h0
    have hhd : s.data.toList.head? = some (s[0]'h0) := by
      rw [List.head?_eq_getElem?, List.getElem?_eq_getElem hl0]
      rfl
    by_cases hm : s[0]'h0 = 45
    · have ht : (((s[0]'h0).toNat : Int) == 45) = true := by rw [hm]; rfl
      have hd : (s.extract 1 s.size).data.toList = digitsOf s.data.toList := by
        unfold digitsOf
        rw [hhd, hm, if_pos rfl, Lib.extract_data, List.take_of_length_le]
        rw [List.length_drop, HLEN.out]
        omega
      have hds : (s.extract 1 s.size).size = s.size - 1 := by rw [ByteArray.size_extract]; omega
      clear hm hhd hl0
      go_enter Tryd.func48, Tryd.ntmps48
      go_upto_region 4 with fail
      generalize s.extract 1 s.size = D at *
      have HD := Lib.hid hd
      clear hd ht
      have hne : (((D.size : Int)) == (s.size : Int)) = false := by rw [beq_eq_false_iff_ne]; omega
      have HSGN := Lib.hid (show ∀ z : Int, z = numF (digitsOf s.data.toList) → z = (if (digitsOf s.data.toList).length = s.data.toList.length then IntKind.i64.wrap (-(numF (digitsOf s.data.toList))) else numF (digitsOf s.data.toList)) from fun z h => by
        rw [if_neg, h]
        rw [← HD.out, ← Lib.size_eq, HLEN.out]
        omega)
      by_cases hlen : D.size < 1 ∨ 19 < D.size
      · have HNO := Lib.hid (show ∀ v, ¬ NumIs s.data.toList v from fun v h => by
          obtain ⟨h1, h2, _⟩ := numIs_parts h
          rw [← HD.out, ← Lib.size_eq] at h1 h2
          omega)
        rcases hlen with hlen | hlen
        all_goals
          go_wp2_with fail
          go_ret2
          exact ⟨0, false, rfl, ⟨by decide, (fun h => by cases h), fun _ => HNO.out⟩, Below.refl _ _⟩
      · have hl1 : 1 ≤ D.size ∧ D.size ≤ 19 := by omega
        clear hlen
        have HAT := Lib.hid (fun (k : Nat) (h1 : k < D.data.toList.length) (h2 : k < D.size) => (show D.data.toList[k] = D[k] from rfl))
        have HLD := Lib.hid (show D.data.toList.length = D.size by simp)
        go_wp2_with fail
        go_loopg [5, 6] (D.size + 1) (fun g n i wx => ∃ (k : Nat) (z : Int), n = .int .i64 z ∧ i = .int .i64 k ∧ k ≤ D.size ∧ D.size - k < g ∧ wx = w ∧ Hid (z = numF (D.data.toList.take k)))
        case atStart => exact ⟨0, 0, rfl, rfl, by omega, by omega, rfl, rfl⟩
        case round =>
          obtain ⟨k, z, rfl, rfl, hk, hg, rfl, HZ⟩ := hrel
          obtain ⟨g, rfl⟩ : ∃ g, gk = g + 1 := ⟨gk - 1, by omega⟩
          by_cases hlt : k < D.size
          · have hll : k < D.data.toList.length := by rw [HLD.out]; exact hlt
            have hb : (D[k]'hlt).toNat < 256 := UInt8.toNat_lt _
            by_cases hdg : 48 ≤ (D[k]'hlt).toNat ∧ (D[k]'hlt).toNat ≤ 57
            · obtain ⟨z2, hz2⟩ : ∃ z2, wrap64 (wrap64 (10 * z) - (((D[k]'hlt).toNat : Int) - 48)) = z2 := ⟨_, rfl⟩
              have HST := Lib.hid (show z2 = numF (D.data.toList.take (k + 1)) by
                rw [List.take_succ_eq_append_getElem hll, numF_app, ← HZ.out, HAT.out k hll hlt, IntWalk.i64_left, IntWalk.i64_left]
                exact hz2.symm)
              have hw1 : IntKind.u8.wrap (((D[k]'hlt).toNat : Int) - 48) = ((D[k]'hlt).toNat : Int) - 48 := IntWalk.u8_in _ (by omega)
              have hw2 : IntKind.i64.wrap (((D[k]'hlt).toNat : Int) - 48) = ((D[k]'hlt).toNat : Int) - 48 := IntWalk.i64_in _ (by omega)
              have hr1 := hdg.1
              have hr2 := hdg.2
              clear hdg hll HZ
              go_wp2_with fail
              go_roundg g
              case measure => omega
              case rel => exact ⟨k + 1, z2, by first | rfl | rw [hz2], by go_num, by omega, by omega, rfl, HST⟩
            · have HNO := Lib.hid (show ∀ v, ¬ NumIs s.data.toList v from fun v h => by
                have h1 := (numIs_parts h).2.2.1
                rw [← HD.out] at h1
                have h2 := h1 _ (List.getElem_mem hll)
                rw [HAT.out k hll hlt] at h2
                omega)
              have hor : (D[k]'hlt).toNat < 48 ∨ 57 < (D[k]'hlt).toNat := by omega
              clear hdg
              rcases hor with hr | hr
              all_goals
                go_wp2_with fail
                go_ret2
                exact ⟨0, false, rfl, ⟨by decide, (fun h => by cases h), fun _ => HNO.out⟩, Below.refl _ _⟩
          · have hke : k = D.size := by omega
            subst hke
            have HZ2 := Lib.hid (HSGN.out z (by rw [HZ.out, ← HD.out, List.take_of_length_le (by rw [HLD.out]; exact Nat.le_refl _)]))
            have hrz := numF_range (D.data.toList.take D.size)
            rw [← HZ.out] at hrz
            clear HSGN HZ
            have hr2 := hrz
            have HNB := Lib.hid (number_any z hr2.1 hr2.2 wr)
            have hsl : (Lib.itoa z).length ≤ 21 := Lib.itoa_length_le z hr2.1 hr2.2
            clear hrz hlt
            skip
            go_wp2_with fail
            refine HNB.out.mono ?_
            rintro e w2 ⟨rfl, hb2⟩
            have HB2 := Lib.hid hb2
            clear hb2 HNB
            cases dt : (Lib.itoa z == s.toList)
            case false =>
              have HNO := Lib.hid (show ∀ v, ¬ NumIs s.data.toList v from fun v h => by
                have h1 := (numIs_parts h).2.2.2
                rw [← HZ2.out] at h1
                subst h1
                rw [ByteArray.toList_eq, h.2] at dt
                simp at dt)
              go_wp2_with fail
              go_ret2
              exact ⟨z, false, rfl, ⟨hr2, (fun h => by cases h), fun _ => HNO.out⟩, HB2.out⟩
            case true =>
              have HEQ := Lib.hid (show Lib.itoa z = s.data.toList by
                have h := beq_iff_eq.1 dt
                rw [ByteArray.toList_eq] at h
                exact h)
              go_wp2_with fail
              go_ret2
              exact ⟨z, true, rfl, ⟨hr2, fun _ => HEQ.out, (fun h => by cases h)⟩, HB2.out⟩
    · have ht : (((s[0]'h0).toNat : Int) == 45) = false := by
        rw [beq_eq_false_iff_ne]
        intro h
        exact hm (UInt8.toNat_inj.1 (by have e : (45 : UInt8).toNat = 45 := rfl; omega))
      have hd : s.data.toList = digitsOf s.data.toList := by
        unfold digitsOf
        rw [hhd, if_neg]
        intro h
        injection h with h
        exact hm h
      clear hm hhd hl0
      go_enter Tryd.func48, Tryd.ntmps48
      go_upto_region 4 with fail
      have HD := Lib.hid hd
      clear hd ht
      have HSGN := Lib.hid (show ∀ z : Int, z = numF (digitsOf s.data.toList) → IntKind.i64.wrap (-z) = (if (digitsOf s.data.toList).length = s.data.toList.length then IntKind.i64.wrap (-(numF (digitsOf s.data.toList))) else numF (digitsOf s.data.toList)) from fun z h => by
        rw [if_pos, h]
        rw [← HD.out])
      by_cases hlen : s.size < 1 ∨ 19 < s.size
      · have HNO := Lib.hid (show ∀ v, ¬ NumIs s.data.toList v from fun v h => by
          obtain ⟨h1, h2, _⟩ := numIs_parts h
          rw [← HD.out, ← Lib.size_eq] at h1 h2
          omega)
        have hlen := hlen.resolve_left (by omega)
        all_goals
          go_wp2_with fail
          go_ret2
          exact ⟨0, false, rfl, ⟨by decide, (fun h => by cases h), fun _ => HNO.out⟩, Below.refl _ _⟩
      · have hl1 : 1 ≤ s.size ∧ s.size ≤ 19 := by omega
        clear hlen
        have HAT := Lib.hid (fun (k : Nat) (h1 : k < s.data.toList.length) (h2 : k < s.size) => (show s.data.toList[k] = s[k] from rfl))
        have HLD := Lib.hid (show s.data.toList.length = s.size by simp)
        go_wp2_with fail
        go_loopg [5, 6] (s.size + 1) (fun g n i wx => ∃ (k : Nat) (z : Int), n = .int .i64 z ∧ i = .int .i64 k ∧ k ≤ s.size ∧ s.size - k < g ∧ wx = w ∧ Hid (z = numF (s.data.toList.take k)))
        case atStart => exact ⟨0, 0, rfl, rfl, by omega, by omega, rfl, rfl⟩
        case round =>
          obtain ⟨k, z, rfl, rfl, hk, hg, rfl, HZ⟩ := hrel
          obtain ⟨g, rfl⟩ : ∃ g, gk = g + 1 := ⟨gk - 1, by omega⟩
          by_cases hlt : k < s.size
          · have hll : k < s.data.toList.length := by rw [HLD.out]; exact hlt
            have hb : (s[k]'hlt).toNat < 256 := UInt8.toNat_lt _
            by_cases hdg : 48 ≤ (s[k]'hlt).toNat ∧ (s[k]'hlt).toNat ≤ 57
            · obtain ⟨z2, hz2⟩ : ∃ z2, wrap64 (wrap64 (10 * z) - (((s[k]'hlt).toNat : Int) - 48)) = z2 := ⟨_, rfl⟩
              have HST := Lib.hid (show z2 = numF (s.data.toList.take (k + 1)) by
                rw [List.take_succ_eq_append_getElem hll, numF_app, ← HZ.out, HAT.out k hll hlt, IntWalk.i64_left, IntWalk.i64_left]
                exact hz2.symm)
              have hw1 : IntKind.u8.wrap (((s[k]'hlt).toNat : Int) - 48) = ((s[k]'hlt).toNat : Int) - 48 := IntWalk.u8_in _ (by omega)
              have hw2 : IntKind.i64.wrap (((s[k]'hlt).toNat : Int) - 48) = ((s[k]'hlt).toNat : Int) - 48 := IntWalk.i64_in _ (by omega)
              have hr1 := hdg.1
              have hr2 := hdg.2
              clear hdg hll HZ
              go_wp2_with fail
              go_roundg g
              case measure => omega
              case rel => exact ⟨k + 1, z2, by first | rfl | rw [hz2], by go_num, by omega, by omega, rfl, HST⟩
            · have HNO := Lib.hid (show ∀ v, ¬ NumIs s.data.toList v from fun v h => by
                have h1 := (numIs_parts h).2.2.1
                rw [← HD.out] at h1
                have h2 := h1 _ (List.getElem_mem hll)
                rw [HAT.out k hll hlt] at h2
                omega)
              have hor : (s[k]'hlt).toNat < 48 ∨ 57 < (s[k]'hlt).toNat := by omega
              clear hdg
              rcases hor with hr | hr
              all_goals
                go_wp2_with fail
                go_ret2
                exact ⟨0, false, rfl, ⟨by decide, (fun h => by cases h), fun _ => HNO.out⟩, Below.refl _ _⟩
          · have hke : k = s.size := by omega
            subst hke
            have HZ2 := Lib.hid (HSGN.out z (by rw [HZ.out, ← HD.out, List.take_of_length_le (by rw [HLD.out]; exact Nat.le_refl _)]))
            have hrz := numF_range (s.data.toList.take s.size)
            rw [← HZ.out] at hrz
            clear HSGN HZ
            obtain ⟨z2, hz2⟩ : ∃ z2, wrap64 (-z) = z2 := ⟨_, rfl⟩
            rw [IntWalk.i64_left, hz2] at HZ2
            have hr2 : -9223372036854775808 ≤ z2 ∧ z2 ≤ 9223372036854775807 := by
              rw [← hz2]
              rw [← IntWalk.i64_left, IntKind.wrap_i64]
              omega
            have HNB := Lib.hid (number_any z2 hr2.1 hr2.2 wr)
            have hsl : (Lib.itoa z2).length ≤ 21 := Lib.itoa_length_le z2 hr2.1 hr2.2
            clear hrz hlt
            skip
            go_wp2_with fail
            refine HNB.out.mono ?_
            rintro e w2 ⟨rfl, hb2⟩
            have HB2 := Lib.hid hb2
            clear hb2 HNB
            cases dt : (Lib.itoa z2 == s.toList)
            case false =>
              have HNO := Lib.hid (show ∀ v, ¬ NumIs s.data.toList v from fun v h => by
                have h1 := (numIs_parts h).2.2.2
                rw [← HZ2.out] at h1
                subst h1
                rw [ByteArray.toList_eq, h.2] at dt
                simp at dt)
              go_wp2_with fail
              go_ret2
              exact ⟨z2, false, rfl, ⟨hr2, (fun h => by cases h), fun _ => HNO.out⟩, HB2.out⟩
            case true =>
              have HEQ := Lib.hid (show Lib.itoa z2 = s.data.toList by
                have h := beq_iff_eq.1 dt
                rw [ByteArray.toList_eq] at h
                exact h)
              go_wp2_with fail
              go_ret2
              exact ⟨z2, true, rfl, ⟨hr2, fun _ => HEQ.out, (fun h => by cases h)⟩, HB2.out⟩

theorem opName_full : ∀ k : Nat, k < 29 → ((opName (k + 1)).data.toList == []) = false
  | 0, _ | 1, _ | 2, _ | 3, _ | 4, _ | 5, _ | 6, _ | 7, _ | 8, _ | 9, _ | 10, _ | 11, _ | 12, _ | 13, _ | 14, _ | 15, _ | 16, _ | 17, _ | 18, _ | 19, _ | 20, _ | 21, _ | 22, _ | 23, _ | 24, _ | 25, _ | 26, _ | 27, _ | 28, _ => by decide
  | n + 29, h => absurd h (by omega)
set_option maxHeartbeats 2000000 in
set_option maxRecDepth 100000 in
theorem name_out (w : World) : Calls Tryd.prog 32 #[.int .u8 30] w fun e w' => e = .returned (.string ⟨#[]⟩) ∧ Below w.heap.size w w' := by
  go_enter Tryd.func32, Tryd.ntmps32
  go_wp2_with fail
  go_ret
  exact ⟨rfl, (Below.refl _ _).alloc (Nat.le_refl _) _⟩
set_option maxHeartbeats 2000000 in
set_option maxRecDepth 100000 in
theorem op5_any (s : ByteArray) (w : World) : Calls Tryd.prog 49 #[.string s] w fun e w' => ∃ k : Nat, e = .returned (.int .u8 (k : Int)) ∧ k ≤ 29 ∧ (1 ≤ k → opName k = s) ∧ (k = 0 → ∀ j, 1 ≤ j → j ≤ 29 → opName j ≠ s) ∧ Below w.heap.size w w' := by
  go_enter Tryd.func49, Tryd.ntmps49
  go_wp2_with fail
  go_loopg [3] 30 (fun g i wx => ∃ k : Nat, i = .int .u8 ((k : Int) + 1) ∧ k ≤ 29 ∧ 29 - k < g ∧ Hid (∀ j, j < k → opName (j + 1) ≠ s) ∧ Hid (Below w.heap.size w wx))
  case atStart => exact ⟨0, rfl, by omega, by omega, fun j hj => by omega, Below.refl _ _⟩
  case round =>
    obtain ⟨k, rfl, hk, hg, HNO, HB⟩ := hrel
    obtain ⟨g, rfl⟩ : ∃ g, gk = g + 1 := ⟨gk - 1, by omega⟩
    by_cases hlt : k < 29
    · have hfull := opName_full k hlt
      have HNM := Lib.hid (name_any k hlt)
      obtain ⟨nm, hnm⟩ : ∃ nm, opName (k + 1) = nm := ⟨_, rfl⟩
      rw [hnm] at hfull HNM
      rw [← ByteArray.toList_eq] at hfull
      have HEQ := Lib.hid hnm
      clear hnm
      go_wp2_with fail
      refine (HNM.out wr).mono ?_
      rintro e w2 ⟨rfl, hb2⟩
      have HB2 := Lib.hid (HB.out.trans (hb2.mono HB.out.size))
      clear hb2
      go_wp2_with fail
      refine (HNM.out w2).mono ?_
      rintro e w3 ⟨rfl, hb3⟩
      have HB3 := Lib.hid (HB2.out.trans (hb3.mono HB2.out.size))
      clear hb3
      cases dt : (nm.toList == s.toList)
      case true =>
        have hs : nm = s := by
          have h := beq_iff_eq.1 dt
          rw [ByteArray.toList_eq, ByteArray.toList_eq] at h
          exact ByteArray.ext (Array.toList_inj.1 h)
        have HS := Lib.hid (HEQ.out.trans hs)
        go_wp2_with fail
        go_ret
        exact ⟨k + 1, rfl, by omega, fun _ => HS.out, fun h => by omega, HB3.out⟩
      case false =>
        have HN2 := Lib.hid (show ∀ j, j < k + 1 → opName (j + 1) ≠ s from fun j hj e => by
          by_cases hjk : j = k
          · subst hjk
            rw [HEQ.out] at e
            rw [e] at dt
            simp at dt
          · exact HNO.out j (by omega) e)
        go_wp2_with fail
        go_roundg g
        case measure => omega
        case rel => exact ⟨k + 1, by go_num, by omega, by omega, HN2, HB3⟩
    · obtain rfl : k = 29 := by omega
      have HNM := Lib.hid (name_out wr)
      go_wp2_with fail
      refine HNM.out.mono ?_
      rintro e w2 ⟨rfl, hb2⟩
      have HB2 := Lib.hid (HB.out.trans (hb2.mono HB.out.size))
      clear hb2
      go_wp2_with fail
      go_ret
      exact ⟨0, rfl, by omega, fun h => by omega, fun _ j h1 h2 e => HNO.out (j - 1) (by omega) (by rw [show j - 1 + 1 = j by omega]; exact e), HB2.out⟩
end Go.Proofs.YtaanhkepimjelaaDoor
