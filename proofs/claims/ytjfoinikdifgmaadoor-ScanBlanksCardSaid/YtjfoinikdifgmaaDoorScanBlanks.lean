/- The law ScanBlanks: its walk, and what its row asks. -/
import Derived.Test.YtjfoinikdifgmaaDoorBlanksP
import Derived.Test.YtjfoinikdifgmaaDoorGlue
import Derived.Test.YtjfoinikdifgmaaDoorAwake
import Derived.Test.YtjfoinikdifgmaaDoorScanWords
import Derived.Test.YtjfoinikdifgmaaDoorRow
import Derived.Deep.Cut
namespace Go.Proofs.YtjfoinikdifgmaaDoor
open Go.ChangeShapes Go.WideShapes Go.ChangeAt Go.RowKit
set_option linter.unusedVariables false
set_option linter.unusedSimpArgs false

def blkStrs : List ByteArray := [⟨#[32]⟩, ⟨#[10]⟩, ⟨#[9, 32, 13]⟩, ⟨#[32, 35, 32, 97, 32, 49, 32, 36, 32, 38, 10]⟩, ⟨#[10, 10, 35, 10]⟩, ⟨#[32, 32]⟩]
theorem blkStrs_get (k : Nat) (hk : k < 6) : blkStrs.getD k .empty = ⟨(blk k).toArray⟩ := by
  match k, hk with
  | 0, _ => rfl
  | 1, _ => rfl
  | 2, _ => rfl
  | 3, _ => rfl
  | 4, _ => rfl
  | 5, _ => rfl
def chOf (lb : List UInt8) (i : Nat) : Nat := if h : i < lb.length then lb[i].toNat % 6 else 0
theorem chOf_lt (lb : List UInt8) (i : Nat) : chOf lb i < 6 := by
  unfold chOf
  split <;> omega
theorem ofBytes_get {l : List Tok} {xs : List (List UInt8)} (h : OfBytes l xs) : ∀ (k : Nat) (h1 : k < l.length) (h2 : k < xs.length), l[k].text.data.toList = xs[k] := by
  induction h with
  | nil => intro k h1; simp at h1
  | @cons x a b l xs hx r ih =>
    intro k h1 h2
    cases k with
    | zero => exact bytesOf_data x
    | succ k => exact ih k (by simpa using h1) (by simpa using h2)
theorem weave_take (ch : Nat → Nat) (xs : List (List UInt8)) (k : Nat) (hk : k < xs.length) : weave ch 0 (xs.take (k + 1)) = weave ch 0 (xs.take k) ++ xs[k] ++ blk (ch k) := by
  rw [List.take_succ_eq_append_getElem hk, weave_snoc, List.length_take, Nat.min_eq_left (by omega), Nat.zero_add]
theorem str_app (a b : List UInt8) : (⟨a.toArray⟩ ++ ⟨b.toArray⟩ : ByteArray) = ⟨(a ++ b).toArray⟩ := by
  apply ByteArray.ext
  simp

set_option maxHeartbeats 4000000 in
set_option maxRecDepth 100000 in
theorem scanBlanks_walk (A : Option Addr) (c : Nat) (l : List UInt8) (A2 : Option Addr) (c2 : Nat) (lb : List UInt8) (A3 : Option Addr) (c3 : Nat) (ld : List UInt8) (w : World)
    (hR : ByteRow w A l) (hl : l.length ≤ 9223372036854775807) (hR2 : ByteRow w A2 lb) (hl2 : lb.length ≤ 9223372036854775807) (hR3 : ByteRow w A3 ld) (hl3 : ld.length ≤ 9223372036854775807) (hT : ScanTabs w) (hS : StrTabs w) :
    Calls Tryd.prog 7 #[.slice A l.length c, .slice A2 lb.length c2, .slice A3 ld.length c3] w fun e w' => e = .returned (.bool true) ∧ Below w.heap.size w w' := by
  have haw := awake_any w hT hS
  have HAW := Lib.hid haw
  have HT := Lib.hid hT
  have HST := Lib.hid hS
  have HR := Lib.hid hR
  have HR2 := Lib.hid hR2
  have HR3 := Lib.hid hR3
  clear haw hT hS hR hR2 hR3
  by_cases hlong : 4000 < l.length
  · go_enter Tryd.func7, Tryd.ntmps7
    go_wp2_with fail
    refine HAW.out.mono ?_
    rintro e w1 ⟨rfl, hb⟩
    go_wp2_with fail
    go_ret
    exact ⟨rfl, hb⟩
  · by_cases hlong3 : 1000 < ld.length
    · go_enter Tryd.func7, Tryd.ntmps7
      go_wp2_with fail
      refine HAW.out.mono ?_
      rintro e w1 ⟨rfl, hb⟩
      go_wp2_with fail
      go_ret
      exact ⟨rfl, hb⟩
    · have hsz := scan_sizes l
      rcases scan_res (l := l) (by omega) with h0 | ⟨a', b', hres, _⟩
      · obtain ⟨toks, hres⟩ : ∃ toks, scanOf l = (toks, 0, 0, 0) := ⟨(scanOf l).1, by rw [← h0]⟩
        obtain ⟨xs, hx⟩ := ofBytes_of (scanOf l).1 scan_words
        rw [hres] at hx hsz
        simp only at hx hsz
        have hbeh := scan_behind (x := l) (y := ld) (T := toks) (by omega) (by omega) hres
        have hwl := fun k => weave_len (chOf lb) (xs.take k) 0
        have hlen : toks.length = xs.length := hx.length
        have hxs : ∀ k, ((xs.take k).map List.length).sum ≤ sizes toks := fun k => by
          have h1 := hx.sizes
          have h2 : (xs.map List.length).sum = ((xs.take k).map List.length).sum + ((xs.drop k).map List.length).sum := by
            rw [← List.sum_append, ← List.map_append, List.take_append_drop]
          omega
        have hwb : ∀ k, (weave (chOf lb) 0 (xs.take k)).length ≤ 48000 := fun k => by
          have h1 := hwl k
          have h2 := hxs k
          have h3 : (xs.take k).length ≤ xs.length := by rw [List.length_take]; omega
          omega
        have hget := ofBytes_get hx
        have HX := Lib.hid hx
        have HRES := Lib.hid hres
        have HBEH := Lib.hid hbeh
        have HWB := Lib.hid hwb
        have HGET := Lib.hid hget
        have HLEN := Lib.hid hlen
        have hn4 : toks.length ≤ 4000 := by omega
        clear hres hbeh hwl hxs hwb hget hx h0 hlen hsz
        go_enter Tryd.func7, Tryd.ntmps7
        go_wp2_with fail
        refine HAW.out.mono ?_
        rintro e w1 ⟨rfl, hb⟩
        go_wp2_with fail
        refine (scan_any A c l w1 (HR.out.below hb) hl (HT.out.below hb) (HST.out.below hb)).mono ?_
        rintro e w2 ⟨⟨v, rfl, hown⟩, hb2⟩
        rw [HRES.out] at hown ⊢
        have hbw := hb.trans (hb2.mono hb.size)
        have hown := hown.mono hb.size
        obtain ⟨A1, c1, rfl, htr, hn⟩ := tokRow_of_own hown
        have HB := Lib.hid hbw
        have HTR := Lib.hid htr
        simp only
        clear hb hb2 hown hbw htr
        go_wp2_with fail
        have hstr : ∀ j, j < 6 → (w2.alloc (.cells (blkStrs.map Value.string).toArray 9)).cell? ⟨w2.heap.size, j, none⟩ = some (.string (blkStrs.getD j .empty)) := fun j hj => by
          rw [World.cell?_alloc_new, List.getElem?_toArray, List.getElem?_map, List.getElem?_eq_getElem (show j < blkStrs.length from hj), List.getD_eq_getElem?_getD, List.getElem?_eq_getElem (show j < blkStrs.length from hj)]
          rfl
        have hb3 : Below w2.heap.size w2 (w2.alloc (.cells (blkStrs.map Value.string).toArray 9)) := (Below.refl _ _).alloc (Nat.le_refl _) _
        have HB3 := Lib.hid (HB.out.trans (hb3.mono HB.out.size))
        have HTR3 := Lib.hid (HTR.out.below hb3)
        have HSTR := Lib.hid hstr
        clear hstr hb3
        have hlow := HB3.out.size
        have hgs : w2.heap.size < (w2.alloc (.cells (blkStrs.map Value.string).toArray 9)).heap.size := by simp
        go_loopg [12, 13] (toks.length + 1) (fun g s i wx => ∃ k : Nat, s = .string ⟨(weave (chOf lb) 0 (xs.take k)).toArray⟩ ∧ i = .int .i64 k ∧ k ≤ toks.length ∧ toks.length - k < g ∧ Below (w2.alloc (.cells (blkStrs.map Value.string).toArray 9)).heap.size (w2.alloc (.cells (blkStrs.map Value.string).toArray 9)) wx)
        case atStart => exact ⟨0, rfl, rfl, by omega, by omega, Below.refl _ _⟩
        case round =>
          obtain ⟨k, rfl, rfl, hk, hg, hbw⟩ := hrel
          obtain ⟨g, rfl⟩ : ∃ g, gk = g + 1 := ⟨gk - 1, by omega⟩
          have hstr : ∀ j, j < 6 → wr.cell? ⟨w2.heap.size, j, none⟩ = some (.string (blkStrs.getD j .empty)) := fun j hj => cell_later hbw (HSTR.out j hj)
          have htr := HTR3.out.below hbw
          have hbw0 := HB3.out.trans (hbw.mono HB3.out.size)
          have HBW := Lib.hid hbw0
          have HBX := Lib.hid hbw
          clear hbw hbw0
          by_cases hkn : k < toks.length
          · obtain ⟨b1, o1, rfl, hb1, ht⟩ := htr k hkn
            have hkx : k < xs.length := by have := HLEN.out; omega
            have htext := HGET.out k hkn hkx
            have hw1 := weave_take (chOf lb) xs k hkx
            have hsz0 := HWB.out k
            have hsz1 := HWB.out (k + 1)
            have a1 := ht.c1
            have hch := chOf_lt lb k
            have d1 := hstr (chOf lb k) hch
            rw [blkStrs_get _ hch] at d1
            have htb : toks[k].text = ⟨xs[k].toArray⟩ := by
              rw [← htext]
            rw [htb] at a1
            rw [hw1] at hsz1
            simp only [List.length_append] at hsz1
            have HW1 := Lib.hid hw1
            clear htr ht hstr htext hw1 htb
            have hm5 : (chOf lb k : Int) ≤ 5 := by omega
            by_cases hkb : k < lb.length
            · obtain ⟨b2, o2, rfl, hb2, e1⟩ := (HR2.out.below HBW.out) k hkb
              have hce : chOf lb k = lb[k].toNat % 6 := by unfold chOf; rw [dif_pos hkb]
              have hy1 : (lb[k].toNat : Int) ≤ 255 := by have := lb[k].toNat_lt; omega
              have hy0 : (0 : Int) ≤ (lb[k].toNat : Int) := by omega
              generalize lb[k] = y at *
              have HCE := Lib.hid hce
              clear hce
              generalize hm : chOf lb k = m at *
              have HM := Lib.hid hm
              clear hm
              go_upto_region 17 with fail
              have e6 : ((y.toNat : Int) % 6) = (m : Int) := by have := HCE.out; omega
              rw [e6]
              clear e6 hy0 hy1 HCE e1
              go_wp2_with fail
              go_roundg g
              case measure => omega
              case rel =>
                refine ⟨k + 1, ?_, by go_num, by omega, by omega, HBX.out⟩
                rw [HW1.out, str_app, str_app]
            · have hce : chOf lb k = 0 := by unfold chOf; rw [dif_neg hkb]
              have HCE := Lib.hid hce
              clear hce
              generalize hm : chOf lb k = m at *
              have HM := Lib.hid hm
              clear hm
              go_upto_region 17 with fail
              obtain rfl : m = 0 := HCE.out
              clear HCE
              go_wp2_with fail
              go_roundg g
              case measure => omega
              case rel =>
                refine ⟨k + 1, ?_, by go_num, by omega, by omega, HBX.out⟩
                rw [HW1.out, str_app, str_app]
          · have hke : k = toks.length := by omega
            have htr5 := htr
            have HTRr := Lib.hid htr
            have hszk := HWB.out k
            obtain ⟨S, hS⟩ : ∃ S : ByteArray, (⟨(weave (chOf lb) 0 (xs.take k)).toArray⟩ : ByteArray) = S := ⟨_, rfl⟩
            have hSl : S.data.toList = weave (chOf lb) 0 xs := by
              rw [← hS, hke, HLEN.out, List.take_length]
            have hSz : S.size = (weave (chOf lb) 0 xs).length := by
              rw [← hSl]
              simp
            have hS48 : S.size ≤ 48000 := by
              rw [hSz]
              have := HWB.out xs.length
              rwa [List.take_length] at this
            rw [hS]
            obtain ⟨c9, w4, hcv, hR4, hb4⟩ := text_bytes wr S
            have hbw4 := HBW.out.trans (hb4.mono HBW.out.size)
            have hsc := scan_any (some ⟨wr.heap.size, 0, none⟩) c9 S.data.toList w4 hR4 (by simp; omega) (HT.out.below hbw4) (HST.out.below hbw4)
            have hlen : S.data.toList.length = S.size := by simp
            rw [hlen, hSl] at hsc
            have HC := Lib.hid hsc
            have HB4 := Lib.hid hbw4
            have HTR4 := Lib.hid (HTRr.out.below hb4)
            have HSZ := Lib.hid hSz
            clear hsc hbw4 hR4 hb4 hlen hSl hSz hS htr htr5 hstr hszk
            by_cases h20 : S.size ≤ 20000
            · obtain ⟨L, hL, hsame⟩ := scan_weave (chOf lb) HX.out (by rw [← HSZ.out]; exact h20)
              have HL := Lib.hid hL
              have HSAME := Lib.hid hsame
              clear hL hsame
              go_wp2_with fail
              refine HC.out.mono ?_
              rintro e w4b ⟨⟨v, rfl, hown⟩, hb5⟩
              rw [HL.out] at hown ⊢
              have HB4b := Lib.hid (HB4.out.trans (hb5.mono HB4.out.size))
              have HTR4b := Lib.hid (HTR4.out.below hb5)
              obtain ⟨A5, c5, rfl, htr2, hn2⟩ := tokRow_of_own hown
              have HTR2 := Lib.hid htr2
              simp only
              clear hb5 hown htr2 hcv HC
              go_wp2_with fail
              refine (same_any A1 A5 c1 c5 toks L false w4b HTR4b.out HTR2.out hn hn2).mono ?_
              rintro e w5 ⟨rfl, hb6⟩
              rw [HSAME.out]
              have hbw5 := HB4b.out.trans (hb6.mono HB4b.out.size)
              have htr5 := HTR4b.out.below hb6
              clear hb6 HTR2 HL HSAME
              have HTR5 := Lib.hid htr5
              have HB5 := Lib.hid hbw5
              clear htr5 hbw5
              have hap := fun (w' : World) (h : Below w.heap.size w w') => HR.out.below h
              have HAP := Lib.hid hap
              clear hap
              go_wp2_with (at_builtin; refine wpList_append_bytes _ rfl _ _ rfl w5.heap.size _ [] A c l l.length rfl rfl rfl (ownB_empty w5 _ (Nat.le_refl _)) (HAP.out _ (HB5.out.alloc HB5.out.size _)) (by simp only [List.length_nil]; omega) (by simp) ?_)
              intro v1 w6 ho1 hb6
              have hb56 : Below w5.heap.size w5 w6 := ((Below.refl _ _).alloc (Nat.le_refl _) _).trans hb6
              have hb67 : Below w6.heap.size w6 (w6.alloc (.cells #[.int .u8 10] 5)) := (Below.refl _ _).alloc (Nat.le_refl _) _
              have hten : ByteRow (w6.alloc (.cells #[.int .u8 10] 5)) (some ⟨w6.heap.size, 0, none⟩) [10] := fun j hj => by
                have hj1 : j < 1 := hj
                obtain rfl : j = 0 := by omega
                exact ⟨w6.heap.size, 0, rfl, by simp, by rw [Nat.zero_add, Lib.cell_of_heap (heap_alloc_new w6 _)]; rfl⟩
              have ho1' := ho1.below hb67
              have HO1 := Lib.hid ho1'
              have HTEN := Lib.hid hten
              have HB56 := Lib.hid hb56
              have HB67 := Lib.hid hb67
              clear ho1 ho1' hten hb56 hb67 hb6
              have hs56 := HB56.out.size
              go_wp2_with (at_builtin; refine wpList_append_bytes _ rfl _ _ rfl w5.heap.size _ l _ _ [10] 1 rfl rfl rfl HO1.out HTEN.out (by simp; omega) (by simp; omega) ?_)
              intro v2 w7 ho2 hb7
              have hb57 : Below w5.heap.size w5 w7 := (HB56.out.trans (HB67.out.mono hs56)).trans hb7
              have HO2 := Lib.hid ho2
              have HB57 := Lib.hid hb57
              clear ho2 hb57 hb7 HO1 HTEN HB56 HB67
              have hs57 := HB57.out.size
              have HR37 := Lib.hid (HR3.out.below (HB5.out.trans (HB57.out.mono HB5.out.size)))
              go_wp2_with (at_builtin; refine wpList_append_bytes _ rfl _ _ rfl w5.heap.size _ (l ++ [10]) A3 c3 ld ld.length rfl rfl rfl HO2.out HR37.out (by simp; omega) (by omega) ?_)
              intro v3 w8 ho3 hb8
              obtain ⟨A9, c10, rfl, hR9, hc9⟩ := byteRow_of_ownB ho3
              have hb58 : Below w5.heap.size w5 w8 := HB57.out.trans hb8
              have hbw8 := HB5.out.trans (hb58.mono HB5.out.size)
              have hlall : (l ++ 10 :: ld).length ≤ 9223372036854775807 := by simp; omega
              have hsc9 := scan_any A9 c10 (l ++ 10 :: ld) w8 hR9 hlall (HT.out.below hbw8) (HST.out.below hbw8)
              have HSC9 := Lib.hid hsc9
              have HB8 := Lib.hid hbw8
              have HTR8 := Lib.hid (HTR5.out.below hb58)
              generalize (l ++ 10 :: ld).length = n9 at *
              clear ho3 hb8 hR9 hb58 hbw8 hsc9 HO2 HB57 HR37
              rcases HBEH.out with ⟨a9, b9, h9, ha9⟩ | ⟨L9, h9⟩
              · have H9 := Lib.hid h9
                clear h9
                go_wp2_with fail
                refine HSC9.out.mono ?_
                rintro e w10 ⟨⟨v, rfl, hown⟩, hb9⟩
                rw [H9.out] at hown ⊢
                obtain ⟨A10, c11, rfl, htr9, hn9⟩ := tokRow_of_own hown
                have hbw9 := HB8.out.trans (hb9.mono HB8.out.size)
                simp only [List.length_nil]
                clear hown htr9 hn9 hb9
                go_wp2_with fail
                go_ret
                exact ⟨rfl, hbw9⟩
              · have H9 := Lib.hid h9
                clear h9
                go_wp2_with fail
                refine HSC9.out.mono ?_
                rintro e w10 ⟨⟨v, rfl, hown⟩, hb9⟩
                rw [H9.out] at hown ⊢
                have hle9 : toks.length ≤ (toks ++ L9).length := by simp
                have htr10 := HTR8.out.below hb9
                have hbw9 := HB8.out.trans (hb9.mono HB8.out.size)
                obtain ⟨A10, c11, rfl, htr9, hn9⟩ := tokRow_of_own hown
                have hpre : TokRow w10 A10 toks := fun j hj => by
                  obtain ⟨b, o, h1, h2, h3⟩ := htr9 j (by simp; omega)
                  rw [List.getElem_append_left hj] at h3
                  exact ⟨b, o, h1, h2, h3⟩
                have hcap9 : (toks ++ L9).length ≤ c11 := by
                  rcases own_form hown with ⟨h1, h2⟩ | ⟨g, cap, h1, h2, _⟩
                  · simp only [Value.slice.injEq] at h1
                    obtain ⟨_, _, h1⟩ := h1
                    omega
                  · simp only [Value.slice.injEq] at h1
                    obtain ⟨_, _, h1⟩ := h1
                    simp only at h2
                    omega
                have hsame9 := fun c' => same_any A10 A1 c' c1 toks toks true w10 hpre htr10 (by omega) (by omega)
                rw [sameToks_refl] at hsame9
                have HS9 := Lib.hid hsame9
                have HB9 := Lib.hid hbw9
                simp only
                generalize (toks ++ L9).length = n10 at *
                have i1 : (toks.length : Int) ≤ (n10 : Int) := by omega
                have i2 : (toks.length : Int) ≤ (c11 : Int) := by omega
                clear hown htr9 hb9 hsame9 hpre htr10 hbw9
                go_wp2_with fail
                refine (HS9.out _).mono ?_
                rintro e w11 ⟨rfl, hb11⟩
                have HB11 := Lib.hid (HB9.out.trans (hb11.mono HB9.out.size))
                clear hb11
                go_wp2_with fail
                go_ret
                exact ⟨rfl, HB11.out⟩
            · go_wp2_with fail
              refine HC.out.mono ?_
              rintro e w5 ⟨⟨v, rfl, hown⟩, hb5⟩
              have hbw5 := HB4.out.trans (hb5.mono HB4.out.size)
              have htr5 := HTR4.out.below hb5
              obtain ⟨A5, c5, rfl, htr2, hn2⟩ := tokRow_of_own hown
              generalize scanOf (weave (chOf lb) 0 xs) = res at *
              simp only
              clear hb5 hown htr2 hcv HC
              have HTR5 := Lib.hid htr5
              have HB5 := Lib.hid hbw5
              clear htr5 hbw5
              have hap := fun (w' : World) (h : Below w.heap.size w w') => HR.out.below h
              have HAP := Lib.hid hap
              clear hap
              go_wp2_with (at_builtin; refine wpList_append_bytes _ rfl _ _ rfl w5.heap.size _ [] A c l l.length rfl rfl rfl (ownB_empty w5 _ (Nat.le_refl _)) (HAP.out _ (HB5.out.alloc HB5.out.size _)) (by simp only [List.length_nil]; omega) (by simp) ?_)
              intro v1 w6 ho1 hb6
              have hb56 : Below w5.heap.size w5 w6 := ((Below.refl _ _).alloc (Nat.le_refl _) _).trans hb6
              have hb67 : Below w6.heap.size w6 (w6.alloc (.cells #[.int .u8 10] 5)) := (Below.refl _ _).alloc (Nat.le_refl _) _
              have hten : ByteRow (w6.alloc (.cells #[.int .u8 10] 5)) (some ⟨w6.heap.size, 0, none⟩) [10] := fun j hj => by
                have hj1 : j < 1 := hj
                obtain rfl : j = 0 := by omega
                exact ⟨w6.heap.size, 0, rfl, by simp, by rw [Nat.zero_add, Lib.cell_of_heap (heap_alloc_new w6 _)]; rfl⟩
              have ho1' := ho1.below hb67
              have HO1 := Lib.hid ho1'
              have HTEN := Lib.hid hten
              have HB56 := Lib.hid hb56
              have HB67 := Lib.hid hb67
              clear ho1 ho1' hten hb56 hb67 hb6
              have hs56 := HB56.out.size
              go_wp2_with (at_builtin; refine wpList_append_bytes _ rfl _ _ rfl w5.heap.size _ l _ _ [10] 1 rfl rfl rfl HO1.out HTEN.out (by simp; omega) (by simp; omega) ?_)
              intro v2 w7 ho2 hb7
              have hb57 : Below w5.heap.size w5 w7 := (HB56.out.trans (HB67.out.mono hs56)).trans hb7
              have HO2 := Lib.hid ho2
              have HB57 := Lib.hid hb57
              clear ho2 hb57 hb7 HO1 HTEN HB56 HB67
              have hs57 := HB57.out.size
              have HR37 := Lib.hid (HR3.out.below (HB5.out.trans (HB57.out.mono HB5.out.size)))
              go_wp2_with (at_builtin; refine wpList_append_bytes _ rfl _ _ rfl w5.heap.size _ (l ++ [10]) A3 c3 ld ld.length rfl rfl rfl HO2.out HR37.out (by simp; omega) (by omega) ?_)
              intro v3 w8 ho3 hb8
              obtain ⟨A9, c10, rfl, hR9, hc9⟩ := byteRow_of_ownB ho3
              have hb58 : Below w5.heap.size w5 w8 := HB57.out.trans hb8
              have hbw8 := HB5.out.trans (hb58.mono HB5.out.size)
              have hlall : (l ++ 10 :: ld).length ≤ 9223372036854775807 := by simp; omega
              have hsc9 := scan_any A9 c10 (l ++ 10 :: ld) w8 hR9 hlall (HT.out.below hbw8) (HST.out.below hbw8)
              have HSC9 := Lib.hid hsc9
              have HB8 := Lib.hid hbw8
              have HTR8 := Lib.hid (HTR5.out.below hb58)
              generalize (l ++ 10 :: ld).length = n9 at *
              clear ho3 hb8 hR9 hb58 hbw8 hsc9 HO2 HB57 HR37
              rcases HBEH.out with ⟨a9, b9, h9, ha9⟩ | ⟨L9, h9⟩
              · have H9 := Lib.hid h9
                clear h9
                go_wp2_with fail
                refine HSC9.out.mono ?_
                rintro e w10 ⟨⟨v, rfl, hown⟩, hb9⟩
                rw [H9.out] at hown ⊢
                obtain ⟨A10, c11, rfl, htr9, hn9⟩ := tokRow_of_own hown
                have hbw9 := HB8.out.trans (hb9.mono HB8.out.size)
                simp only [List.length_nil]
                clear hown htr9 hn9 hb9
                go_wp2_with fail
                go_ret
                exact ⟨rfl, hbw9⟩
              · have H9 := Lib.hid h9
                clear h9
                go_wp2_with fail
                refine HSC9.out.mono ?_
                rintro e w10 ⟨⟨v, rfl, hown⟩, hb9⟩
                rw [H9.out] at hown ⊢
                have hle9 : toks.length ≤ (toks ++ L9).length := by simp
                have htr10 := HTR8.out.below hb9
                have hbw9 := HB8.out.trans (hb9.mono HB8.out.size)
                obtain ⟨A10, c11, rfl, htr9, hn9⟩ := tokRow_of_own hown
                have hpre : TokRow w10 A10 toks := fun j hj => by
                  obtain ⟨b, o, h1, h2, h3⟩ := htr9 j (by simp; omega)
                  rw [List.getElem_append_left hj] at h3
                  exact ⟨b, o, h1, h2, h3⟩
                have hcap9 : (toks ++ L9).length ≤ c11 := by
                  rcases own_form hown with ⟨h1, h2⟩ | ⟨g, cap, h1, h2, _⟩
                  · simp only [Value.slice.injEq] at h1
                    obtain ⟨_, _, h1⟩ := h1
                    omega
                  · simp only [Value.slice.injEq] at h1
                    obtain ⟨_, _, h1⟩ := h1
                    simp only at h2
                    omega
                have hsame9 := fun c' => same_any A10 A1 c' c1 toks toks true w10 hpre htr10 (by omega) (by omega)
                rw [sameToks_refl] at hsame9
                have HS9 := Lib.hid hsame9
                have HB9 := Lib.hid hbw9
                simp only
                generalize (toks ++ L9).length = n10 at *
                have i1 : (toks.length : Int) ≤ (n10 : Int) := by omega
                have i2 : (toks.length : Int) ≤ (c11 : Int) := by omega
                clear hown htr9 hb9 hsame9 hpre htr10 hbw9
                go_wp2_with fail
                refine (HS9.out _).mono ?_
                rintro e w11 ⟨rfl, hb11⟩
                have HB11 := Lib.hid (HB9.out.trans (hb11.mono HB9.out.size))
                clear hb11
                go_wp2_with fail
                go_ret
                exact ⟨rfl, HB11.out⟩
      · have HRES := Lib.hid hres
        clear hres hsz
        go_enter Tryd.func7, Tryd.ntmps7
        go_wp2_with fail
        refine HAW.out.mono ?_
        rintro e w1 ⟨rfl, hb⟩
        go_wp2_with fail
        refine (scan_any A c l w1 (HR.out.below hb) hl (HT.out.below hb) (HST.out.below hb)).mono ?_
        rintro e w2 ⟨⟨v, rfl, hown⟩, hb2⟩
        rw [HRES.out] at hown ⊢
        have hbw := hb.trans (hb2.mono hb.size)
        obtain ⟨A1, c1, rfl, htr, hn⟩ := tokRow_of_own hown
        simp only
        clear hb hb2 hown htr
        go_wp2_with fail
        go_ret
        exact ⟨rfl, hbw⟩

set_option maxRecDepth 100000 in
theorem scanBlanks_calls {H : Type} (enc : TypeId × Value → H) (W : World) (base : Nat) (args : Array Value) (ds : List (DataW H)) (p : List MemPlace)
    (hval : ∀ (j : Nat) t v, Tryd.f7.params[j]? = some t → args[j]? = some v → Value.okWide Tryd.prog W .any base t v)
    (hA : DataW.TrodAll enc Tryd.prog W 0 (fun _ => true) true Tryd.f7.params.toList args.toList ds p)
    (hsz : (DataW.weightsEach Tryd.prog (Tryd.f7.params.toList ++ Rows.scanBlanksSpec.plain.varTypes Tryd.prog) (ds ++ [])).all (· ≤ reachBytes) = true)
    (hL : laidMetH Tryd.prog Rows.scanBlanksRow.laid W) :
    Calls Tryd.prog 7 args W fun e W' => e = .returned (.bool true) ∧ Below W.heap.size W W' ∧ (Rows.scanBlanksSpec.fn H (ds ++ [])) = { results := [.lit (.bool true)], args := ds } := by
  have hT : ScanTabs W := scanTabs_of (by kernel_rfl) hL (by repeat (first | exact List.mem_cons_self | apply List.mem_cons_of_mem)) (by repeat (first | exact List.mem_cons_self | apply List.mem_cons_of_mem))
  have hS : StrTabs W := strTabs_of (by kernel_rfl) hL (by repeat (first | exact List.mem_cons_self | apply List.mem_cons_of_mem)) (by repeat (first | exact List.mem_cons_self | apply List.mem_cons_of_mem))
  rw [Tryd.params7] at hA hval
  obtain ⟨v0, v1, v2, d0, d1, d2, p0, p1, p2, rfl, rfl, rfl, h0, h1, h2⟩ := trodAll_three hA
  obtain ⟨a0, len0, cap0, rfl⟩ := okWide_slice Tryd.underlying27 (hval 0 27 v0 rfl rfl)
  obtain ⟨a1, len1, cap1, rfl⟩ := okWide_slice Tryd.underlying27 (hval 1 27 v1 rfl rfl)
  obtain ⟨a2, len2, cap2, rfl⟩ := okWide_slice Tryd.underlying27 (hval 2 27 v2 rfl rfl)
  obtain ⟨f0, hf0⟩ := h0
  obtain ⟨f1, hf1⟩ := h1
  obtain ⟨f2, hf2⟩ := h2
  obtain ⟨l0, rfl, hR0, hl0, hc0⟩ := open_bytes hf0
  obtain ⟨l1, rfl, hR1, hl1, hc1⟩ := open_bytes hf1
  obtain ⟨l2, rfl, hR2, hl2, hc2⟩ := open_bytes hf2
  exact (scanBlanks_walk a0 cap0 l0 a1 cap1 l1 a2 cap2 l2 W hR0 hl0 hR1 hl1 hR2 hl2 hT hS).mono fun e W' h => ⟨h.1, h.2, rfl⟩
end Go.Proofs.YtjfoinikdifgmaaDoor
