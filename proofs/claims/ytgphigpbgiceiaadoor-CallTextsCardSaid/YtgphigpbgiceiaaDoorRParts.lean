/- The walk of dispatcherref16.parts. -/
import Derived.Test.YtgphigpbgiceiaaDoorPartP
import Derived.Test.YtgphigpbgiceiaaDoorCtRow
import Derived.Test.YtgphigpbgiceiaaDoorCodeJ
import Derived.Deep.LoopGhost
import Derived.Deep.Cut
namespace Go.Proofs.YtgphigpbgiceiaaDoor
open Go.RowKit Go.Sort
set_option linter.unusedVariables false
set_option linter.unusedSimpArgs false

/-- A piece of a list. -/
def seg (l : List UInt8) (a b : Nat) : List UInt8 := (l.drop a).take (b - a)
theorem seg_nil (l : List UInt8) (a : Nat) : seg l a a = [] := by simp [seg]
theorem seg_snoc {l : List UInt8} {a b : Nat} (hab : a ≤ b) (hb : b < l.length) : seg l a (b + 1) = seg l a b ++ [l[b]] := by
  unfold seg
  have h : b - a < (l.drop a).length := by rw [List.length_drop]; omega
  rw [show b + 1 - a = b - a + 1 by omega, List.take_succ_eq_append_getElem h]
  congr 2
  rw [List.getElem_drop]
  congr 1
  omega
theorem seg_cons {l : List UInt8} {a b : Nat} (hab : a < b) (hb : b ≤ l.length) : seg l a b = l[a] :: seg l (a + 1) b := by
  unfold seg
  rw [List.drop_eq_getElem_cons (by omega), show b - a = b - (a + 1) + 1 by omega, List.take_succ_cons]
theorem seg_first {l : List UInt8} {a b : Nat} (hab : a < b) (hb : b ≤ l.length) : (seg l a b)[0]? = some l[a] := by rw [seg_cons hab hb]; rfl
/-- Where the cutting stands: at place i, the part under way begun at m; n: where it ends. -/
def PartInv (l : List UInt8) (n : Nat) (ALL : List (List UInt8)) (LB : List ByteArray) (m i : Nat) : Prop :=
  (m ≤ i ∧ LB.map (·.data.toList) ++ cutR (seg l m i) (seg l i n) = ALL) ∨ (m = i + 1 ∧ l[i]? = some 32 ∧ LB.map (·.data.toList) ++ cutR [] (seg l (i + 1) n) = ALL)
theorem partInv_skip {l : List UInt8} {n m i : Nat} {ALL : List (List UInt8)} {LB : List ByteArray} (h : PartInv l n ALL LB m i) (hi : i < n) (hn : n < l.length) (hlast : l[n] = 41) (hno : ¬ (l[i] = 44 ∧ l[i + 1] = 32)) : PartInv l n ALL LB m (i + 1) := by
  rcases h with ⟨hm, h⟩ | ⟨hm, h32, h⟩
  · refine .inl ⟨by omega, ?_⟩
    have hns : ¬ (l[i] = 44 ∧ (seg l (i + 1) n)[0]? = some 32) := by
      rintro ⟨h1, h2⟩
      apply hno
      refine ⟨h1, ?_⟩
      by_cases hi2 : i + 1 < n
      · rw [seg_first hi2 (by omega)] at h2
        exact Option.some.inj h2
      · have e : i + 1 = n := by omega
        rw [e, seg_nil] at h2
        cases h2
    rw [seg_cons hi (by omega), cutR_skip _ _ _ hns] at h
    rw [seg_snoc hm (by omega)]
    exact h
  · refine .inl ⟨by omega, ?_⟩
    subst hm
    rw [seg_nil]
    exact h
theorem partInv_cut {s : ByteArray} {n m i : Nat} {ALL : List (List UInt8)} {LB : List ByteArray} (h : PartInv s.data.toList n ALL LB m i) (hi : i + 1 < n) (hn : n < s.data.toList.length) (h1 : s.data.toList[i] = 44) (h2 : s.data.toList[i + 1] = 32) : m ≤ i ∧ PartInv s.data.toList n ALL (LB ++ [s.extract m i]) (i + 2) (i + 1) := by
  rcases h with ⟨hm, h⟩ | ⟨hm, h32, h⟩
  · refine ⟨hm, .inr ⟨rfl, by rw [List.getElem?_eq_getElem (by omega), h2], ?_⟩⟩
    rw [seg_cons (show i < n by omega) (by omega), h1, seg_cons hi (by omega), h2, cutR_cut] at h
    rw [List.map_append, List.append_assoc, ← h]
    congr 1
    show [(s.extract m i).data.toList] ++ _ = _
    rw [Lib.extract_data]
    rfl
  · rw [List.getElem?_eq_getElem (by omega)] at h32
    have := Option.some.inj h32
    rw [h1] at this
    cases this
theorem partInv_end {s : ByteArray} {n m i : Nat} {ALL : List (List UInt8)} {LB : List ByteArray} (h : PartInv s.data.toList n ALL LB m i) (hi : i = n) (hn : n < s.data.toList.length) (hlast : s.data.toList[n] = 41) : m ≤ n ∧ (LB ++ [s.extract m n]).map (·.data.toList) = ALL := by
  subst hi
  rcases h with ⟨hm, h⟩ | ⟨hm, h32, h⟩
  · refine ⟨hm, ?_⟩
    rw [seg_nil, cutR] at h
    rw [List.map_append, ← h]
    congr 1
    show [(s.extract m i).data.toList] = _
    rw [Lib.extract_data]
    rfl
  · rw [List.getElem?_eq_getElem hn] at h32
    have := Option.some.inj h32
    rw [hlast] at this
    cases this
/-- What parts tells. -/
def PartsPost (s : ByteArray) (w : World) (e : Ending) (w' : World) : Prop := ∃ (W : ByteArray) (A : Option Addr) (cA : Nat) (LB : List ByteArray) (ok : Bool), e = .returned (.tuple #[.string W, .slice A LB.length cA, .bool ok]) ∧ w'.ownsRow w.heap.size 9 1 (.slice A LB.length cA) LB.length (LB.map Value.string) ∧ Below w.heap.size w w' ∧
  (match partsF s.data.toList with
   | none => ok = false
   | some (x, ps) => ok = true ∧ W.data.toList = x ∧ LB.map (·.data.toList) = ps)
theorem partsPost_no {s : ByteArray} {w w' : World} (h : partsF s.data.toList = none) (hb : Below w.heap.size w w') : PartsPost s w (.returned (.tuple #[.string ⟨#[]⟩, .slice none 0 0, .bool false])) w' :=
  ⟨⟨#[]⟩, none, 0, [], false, rfl, World.ownsRow_nil _ _ _ _, hb, by rw [h]⟩

set_option maxHeartbeats 8000000 in
set_option maxRecDepth 100000 in
theorem parts_any (s : ByteArray) (hs : s.size ≤ 300) (w : World) : Calls Tryd.prog 36 #[.string s] w (PartsPost s w) := by
  obtain ⟨i1, hi1, hz01, hz11, hz21⟩ := info_parts Tryd.infoStr
  have H1 := Lib.hid (And.intro hi1 (And.intro hz01 (And.intro hz11 hz21)))
  clear hi1 hz01 hz11 hz21
  have HLEN := Lib.hid (show s.data.toList.length = s.size by simp)
  have HAT := Lib.hid (fun (k : Nat) (h1 : k < s.data.toList.length) (h2 : k < s.size) => (show s.data.toList[k] = s[k] from rfl))
  go_enter Tryd.func36, Tryd.ntmps36
  go_wp2_with fail
  go_loopg [5] (s.size + 1) (fun g i wx => ∃ k : Nat, i = .int .i64 k ∧ k ≤ s.size ∧ s.size - k < g ∧ w = wx ∧ Hid (∀ j (h : j < s.data.toList.length), j < k → s.data.toList[j] ≠ 40))
  case atStart => exact ⟨0, rfl, by omega, by omega, rfl, Lib.hid (fun j h hj => by omega)⟩
  case round =>
    obtain ⟨k, rfl, hk, hg, rfl, HNE⟩ := hrel
    obtain ⟨g, rfl⟩ : ∃ g, gk = g + 1 := ⟨gk - 1, by omega⟩
    by_cases hlt : k < s.size
    · have hdl : decide (k < s.size) = true := by simpa using hlt
      have hll : k < s.data.toList.length := by rw [HLEN.out]; exact hlt
      by_cases h40 : s[k] = 40
      · have ht : (((s[k]'hlt).toNat : Int) == 40) = true := by rw [h40]; rfl
        have htb : (((s[k]'hlt).toNat : Int) != 40) = false := by rw [h40]; rfl
        have HTW := Lib.hid (takeWhile_stop s.data.toList k (by rw [HLEN.out]; exact hk) HNE.out (fun h => by rw [HAT.out k h hlt]; exact h40))
        clear hll h40
        have hkl : k ≤ s.size := hk
        by_cases hA : s.size ≤ k + 1
        · have hdA : decide ((s.size : Int) - 1 ≤ (k : Int)) = true := by simp; omega
          have HNO := Lib.hid (show partsF s.data.toList = none by
            unfold partsF
            rw [HTW.out, if_pos (.inl (by rw [List.length_take, HLEN.out]; omega))])
          clear hA
          go_wp2_with fail
          refine bodyPost_ret (v := .tuple #[.string ⟨#[]⟩, .slice none 0 0, .bool false]) (by simp [results, Tryd.results36, go_sem]) rfl ?_
          exact partsPost_no HNO.out (Below.refl _ _)
        obtain ⟨n, hn1⟩ : ∃ n, s.size = n + 1 := ⟨s.size - 1, by omega⟩
        have hns : n < s.size := by omega
        have hsn : (s.size : Int) - 1 = (n : Int) := by omega
        have hkn : k < n := by omega
        have HN1 := Lib.hid hn1
        have hdA : decide (n ≤ k) = false := by simp; omega
        have hnl : n < s.data.toList.length := by rw [HLEN.out]; exact hns
        have HNL := Lib.hid hnl
        clear hn1 hA hnl
        by_cases h41 : s[n] = 41
        case neg =>
          have ht41 : (((s[n]'hns).toNat : Int) != 41) = true := by
            rw [bne_iff_ne]
            intro h
            exact h41 (UInt8.toNat_inj.1 (by have e : (41 : UInt8).toNat = 41 := rfl; omega))
          have HNO := Lib.hid (show partsF s.data.toList = none by
            have hne : s.data.toList.getLast? ≠ some 41 := by
              rw [List.getLast?_eq_getElem?, HLEN.out, HN1.out, Nat.add_sub_cancel, List.getElem?_eq_getElem HNL.out, HAT.out n HNL.out hns]
              intro e
              exact h41 (Option.some.inj e)
            unfold partsF
            rw [if_pos (.inr hne)])
          clear h41
          go_wp2_with fail
          refine bodyPost_ret (v := .tuple #[.string ⟨#[]⟩, .slice none 0 0, .bool false]) (by simp [results, Tryd.results36, go_sem]) rfl ?_
          exact partsPost_no HNO.out (Below.refl _ _)
        case pos =>
        have h41e : (s[n]'hns) = 41 := h41
        have ht41 : (((s[n]'hns).toNat : Int) != 41) = false := by rw [h41e]; rfl
        have HLAST := Lib.hid (show s.data.toList[n]'HNL.out = 41 by rw [HAT.out n HNL.out hns]; exact h41)
        have HPF := Lib.hid (show partsF s.data.toList = some (s.data.toList.take k, cutR [] (seg s.data.toList (k + 1) n)) by
          unfold partsF
          rw [HTW.out, if_neg]
          · have e : (s.data.toList.take k).length = k := by rw [List.length_take, HLEN.out]; omega
            rw [e]
            congr 2
            rw [List.dropLast_eq_take, List.length_drop, HLEN.out, HN1.out]
            unfold seg
            congr 2
            omega
          · rintro (h1 | h1)
            · rw [List.length_take, HLEN.out] at h1
              have := HN1.out
              omega
            · apply h1
              rw [List.getLast?_eq_getElem?, HLEN.out, HN1.out, Nat.add_sub_cancel, List.getElem?_eq_getElem HNL.out, HLAST.out])
        obtain ⟨ALL, hALL⟩ : ∃ x, cutR [] (seg s.data.toList (k + 1) n) = x := ⟨_, rfl⟩
        rw [hALL] at HPF
        have HALL := Lib.hid hALL
        clear hALL h41 h41e
        go_upto_region 6 with fail
        clear ht41 ht hdl
        go_wp2_with fail
        clear hdA htb
        go_loopg [6, 7, 8] (n + 1) (fun g o f i wx => ∃ (i0 m cA : Nat) (Av : Option Addr) (LB : List ByteArray), o = .slice Av LB.length cA ∧ f = .int .i64 m ∧ i = .int .i64 i0 ∧ k + 1 ≤ i0 ∧ i0 ≤ n ∧ n - i0 < g ∧ LB.length ≤ i0 ∧ m ≤ i0 + 1 ∧ Hid (PartInv s.data.toList n ALL LB m i0) ∧ Hid (wx.ownsRow w.heap.size 9 1 (.slice Av LB.length cA) LB.length (LB.map Value.string)) ∧ Hid (Below w.heap.size w wx))
        case atStart => exact ⟨k + 1, k + 1, 0, none, [], rfl, by go_num, by go_num, by omega, by omega, by omega, by simp, by omega, Lib.hid (.inl ⟨Nat.le_refl _, by rw [seg_nil]; exact HALL.out⟩), Lib.hid (World.ownsRow_nil _ _ _ _), Lib.hid (Below.refl _ _)⟩
        case round =>
          obtain ⟨i, m, cA, Av, LB, rfl, rfl, rfl, hki, hin, hg2, hLB, hmi, HPI, HOW, HB⟩ := hrel
          obtain ⟨g2, rfl⟩ : ∃ g2', gk = g2' + 1 := ⟨gk - 1, by omega⟩
          by_cases hlt2 : i < n
          · have hdi : decide ((i : Int) < (n : Int)) = true := by simp; omega
            have hi1 : i < s.size := by omega
            have hi2 : i + 1 < s.size := by omega
            have hl1 : i < s.data.toList.length := by rw [HLEN.out]; exact hi1
            have hl2 : i + 1 < s.data.toList.length := by rw [HLEN.out]; exact hi2
            have HA1 := Lib.hid (HAT.out i hl1 hi1)
            have HA2 := Lib.hid (HAT.out (i + 1) hl2 hi2)
            have HSK := Lib.hid (fun h => partInv_skip HPI.out hlt2 HNL.out HLAST.out h)
            rw [HA1.out, HA2.out] at HSK
            have HCU := Lib.hid (show i + 1 < n → s[i] = 44 → s[i + 1] = 32 → _ from fun h0 h1 h2 => partInv_cut HPI.out h0 HNL.out (HA1.out.trans h1) (HA2.out.trans h2))
            by_cases h44 : s[i] = 44
            · have ht1 : (((s[i]'hi1).toNat : Int) == 44) = true := by rw [h44]; rfl
              by_cases h32 : s[i + 1] = 32
              · have ht2 : (((s[i + 1]'hi2).toNat : Int) == 32) = true := by rw [h32]; rfl
                have hin2 : i + 1 < n := by
                  rcases Nat.lt_or_ge (i + 1) n with h | h
                  · exact h
                  · exfalso
                    have e : i + 1 = n := by omega
                    subst e
                    have h9 := HLAST.out
                    rw [HA2.out, h32] at h9
                    cases h9
                obtain ⟨hm2, hpi2⟩ := HCU.out hin2 h44 h32
                have HPI2 := Lib.hid hpi2
                clear hpi2 h44 h32 HSK HCU HA1 HA2 hl1 hl2 HPI
                have HO7 := Lib.hid (HOW.out.alloc (.cells #[.string (s.extract m i)] 9))
                have HB7 := Lib.hid (HB.out.alloc HB.out.size (.cells #[.string (s.extract m i)] 9))
                have HNEWS := Lib.hid (World.news_of_block (w := wr.alloc (.cells #[.string (s.extract m i)] 9)) (B := wr.heap.size) (cs := #[.string (s.extract m i)]) (t := 9) (fr := (0, 0)) (heap_alloc_new _ _))
                have HONE := Lib.hid (show ∀ y ∈ [Value.string (s.extract m i)], y.oneCell' = true by simp [Value.oneCell'])
                have H63 := Lib.hid (show LB.length + 1 ≤ maxLen by unfold maxLen; omega)
                have HBY := Lib.hid (show (LB.length + 1) * 16 ≤ 140737488355328 by omega)
                have HBASE := Lib.hid HB7.out.size
                go_wp2_with (at_builtin; refine wpList_append_lies _ rfl (.tmp 56) (.tmp 61) 60 rfl w.heap.size 9 i1 _ 1 16 Tryd.underlying60 H1.out.1 H1.out.2.1 H1.out.2.2.1 H1.out.2.2.2 rfl (by decide) (.slice Av LB.length cA) LB.length _ rfl HO7.out ⟨wr.heap.size, 0, none⟩ 1 1 [Value.string (s.extract m i)] rfl rfl HNEWS.out HONE.out (by decide) H63.out HBY.out HBASE.out _ rfl ?_)
                intro g3 cap w8 hown hgrow hat hlt8
                have HO8 := Lib.hid (show w8.ownsRow w.heap.size 9 1 (.slice (some ⟨g3, 0, none⟩) (LB.length + 1) cap) (LB.length + 1) ((LB ++ [(s.extract m i)]).map Value.string) by rw [List.map_append]; exact hown)
                have HB8 := Lib.hid (below_grown5 HB7.out hgrow HBASE.out (fun g hg => (HO7.out.lt g hg).1))
                clear hown hgrow hat hlt8 HO7 HB7 HNEWS HONE H63 HBY HBASE HOW HB
                go_wp2_with fail
                go_roundg g2
                case measure => omega
                case rel => exact ⟨i + 1, i + 2, cap, some ⟨g3, 0, none⟩, LB ++ [s.extract m i], by simp, by go_num, by go_num, by omega, by omega, by omega, by simp; omega, by omega, HPI2, by simpa using HO8, HB8⟩
              · have ht2 : (((s[i + 1]'hi2).toNat : Int) == 32) = false := by
                  rw [beq_eq_false_iff_ne]
                  intro h
                  exact h32 (UInt8.toNat_inj.1 (by have e : (32 : UInt8).toNat = 32 := rfl; omega))
                have HPI2 := Lib.hid (HSK.out (fun h => h32 h.2))
                clear h44 h32 HSK HCU HA1 HA2 hl1 hl2 HPI
                go_wp2_with fail
                go_roundg g2
                case measure => omega
                case rel => exact ⟨i + 1, m, cA, Av, LB, rfl, rfl, by go_num, by omega, by omega, by omega, by omega, by omega, HPI2, HOW, HB⟩
            · have ht1 : (((s[i]'hi1).toNat : Int) == 44) = false := by
                rw [beq_eq_false_iff_ne]
                intro h
                exact h44 (UInt8.toNat_inj.1 (by have e : (44 : UInt8).toNat = 44 := rfl; omega))
              have HPI2 := Lib.hid (HSK.out (fun h => h44 h.1))
              clear h44 HSK HCU HA1 HA2 hl1 hl2 HPI
              go_wp2_with fail
              go_roundg g2
              case measure => omega
              case rel => exact ⟨i + 1, m, cA, Av, LB, rfl, rfl, by go_num, by omega, by omega, by omega, by omega, by omega, HPI2, HOW, HB⟩
          · have hie : i = n := by omega
            obtain ⟨hmn, hend⟩ := partInv_end HPI.out hie HNL.out HLAST.out
            have HEND := Lib.hid hend
            subst hie
            have hdi : decide ((i : Int) < (i : Int)) = false := by simp
            have hdm : decide ((i : Int) < (m : Int)) = false := by simp; omega
            clear hend hlt2 HPI
            have HO7 := Lib.hid ((HOW.out.alloc (.cells #[.string (s.extract m i)] 9)).drew)
            have HB7 := Lib.hid ((HB.out.alloc HB.out.size (.cells #[.string (s.extract m i)] 9)).drew)
            have HNEWS := Lib.hid (World.news_of_block (w := (wr.alloc (.cells #[.string (s.extract m i)] 9)).drew) (B := wr.heap.size) (cs := #[.string (s.extract m i)]) (t := 9) (fr := (0, 0)) (heap_alloc_new _ _))
            have HONE := Lib.hid (show ∀ y ∈ [Value.string (s.extract m i)], y.oneCell' = true by simp [Value.oneCell'])
            have H63 := Lib.hid (show LB.length + 1 ≤ maxLen by unfold maxLen; omega)
            have HBY := Lib.hid (show (LB.length + 1) * 16 ≤ 140737488355328 by omega)
            have HBASE := Lib.hid HB7.out.size
            have hwi : IntKind.i64.wrap (i : Int) = (i : Int) := IntWalk.i64_in _ (by omega)
            have hi0 : (0 : Int) ≤ (i : Int) := by omega
            have hi1 : (i : Int) ≤ (s.size : Int) := by omega
            have hi2 : (m : Int) ≤ (i : Int) := by omega
            go_upto_region 16 with fail
            go_region_law (refine step_append_lies _ rfl (.tmp 73) (.tmp 80) 60 rfl w.heap.size 9 i1 _ 1 16 Tryd.underlying60 H1.out.1 H1.out.2.1 H1.out.2.2.1 H1.out.2.2.2 rfl (by decide) (.slice Av LB.length cA) LB.length _ (by simp [Act.eval, Act.put]) HO7.out ⟨wr.heap.size, 0, none⟩ 1 1 [Value.string (s.extract m i)] (by simp [Act.eval, Act.put]) rfl HNEWS.out HONE.out (by decide) H63.out HBY.out HBASE.out _ rfl ?_; intro g3 cap w8 hown hgrow hat hlt8)
            have HO8 := Lib.hid (show w8.ownsRow w.heap.size 9 1 (.slice (some ⟨g3, 0, none⟩) (LB.length + 1) cap) (LB.length + 1) ((LB ++ [(s.extract m i)]).map Value.string) by rw [List.map_append]; exact hown)
            have HB8 := Lib.hid (below_grown5 HB7.out hgrow HBASE.out (fun g hg => (HO7.out.lt g hg).1))
            clear hown hgrow hat hlt8 HO7 HB7 HNEWS HONE H63 HBY HBASE HOW HB
            go_wp2_with fail
            refine bodyPost_ret (v := .tuple #[.string (s.extract 0 k), .slice (some ⟨g3, 0, none⟩) (LB.length + 1) cap, .bool true]) (by simp [results, Tryd.results36, go_sem]) rfl ?_
            refine ⟨s.extract 0 k, some ⟨g3, 0, none⟩, cap, LB ++ [s.extract m i], true, by simp, by simpa using HO8.out, HB8.out, ?_⟩
            rw [HPF.out]
            refine ⟨rfl, ?_, HEND.out⟩
            rw [Lib.extract_data]
            rfl
      · have ht : (((s[k]'hlt).toNat : Int) == 40) = false := by
          rw [beq_eq_false_iff_ne]
          intro h
          exact h40 (UInt8.toNat_inj.1 (by have e : (40 : UInt8).toNat = 40 := rfl; omega))
        have HNE2 := Lib.hid (show ∀ j (h : j < s.data.toList.length), j < k + 1 → s.data.toList[j] ≠ 40 from fun j h hj => by
          by_cases e : j = k
          · subst e
            rw [HAT.out j h hlt]
            exact h40
          · exact HNE.out j h (by omega))
        clear h40 hll
        go_wp2_with fail
        go_roundg g
        case measure => omega
        case rel => exact ⟨k + 1, by go_num, by omega, by omega, rfl, HNE2⟩
    · obtain rfl : k = s.size := by omega
      have hdl : decide (s.size < s.size) = false := by simp
      have HTW := Lib.hid (takeWhile_stop s.data.toList s.size (by rw [HLEN.out]; exact Nat.le_refl _) HNE.out (fun h => by rw [HLEN.out] at h; omega))
      have hdA : decide ((s.size : Int) - 1 ≤ (s.size : Int)) = true := by simp; omega
      have HNO := Lib.hid (show partsF s.data.toList = none by
        unfold partsF
        rw [HTW.out, if_pos (.inl (by rw [List.length_take, HLEN.out]; omega))])
      go_wp2_with fail
      refine bodyPost_ret (v := .tuple #[.string ⟨#[]⟩, .slice none 0 0, .bool false]) (by simp [results, Tryd.results36, go_sem]) rfl ?_
      exact partsPost_no HNO.out (Below.refl _ _)
end Go.Proofs.YtgphigpbgiceiaaDoor
