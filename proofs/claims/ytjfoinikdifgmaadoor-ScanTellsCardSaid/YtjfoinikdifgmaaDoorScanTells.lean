/- The law ScanTells: its walk, and what its row asks. -/
import Derived.Test.YtjfoinikdifgmaaDoorScanR
import Derived.Test.YtjfoinikdifgmaaDoorSame
import Derived.Test.YtjfoinikdifgmaaDoorOwn
import Derived.Test.YtjfoinikdifgmaaDoorStrTabs
import Derived.Test.YtjfoinikdifgmaaDoorScanWords
import Derived.Test.YtjfoinikdifgmaaDoorRow
namespace Go.Proofs.YtjfoinikdifgmaaDoor
open Go.ChangeShapes Go.WideShapes Go.ChangeAt Go.RowKit
set_option linter.unusedVariables false

theorem tokSame_self (pl : Bool) (x : Tok) : tokSame pl x x = true := by unfold tokSame; simp
theorem sameToks_self (pl : Bool) : ∀ l : List Tok, sameToks pl l l = true
  | [] => rfl
  | x :: l => by unfold sameToks; rw [tokSame_self, sameToks_self pl l]; rfl

set_option maxHeartbeats 4000000 in
set_option maxRecDepth 100000 in
theorem scanTells_walk (A : Option Addr) (c : Nat) (l : List UInt8) (w : World) (hR : ByteRow w A l) (hl : l.length ≤ 9223372036854775807) (hcap : l.length ≤ c) (hT : ScanTabs w) (hS : StrTabs w) :
    Calls Tryd.prog 5 #[.slice A l.length c] w fun e w' => e = .returned (.bool true) ∧ Below w.heap.size w w' := by
  by_cases hlong : 21000 < l.length
  · clear hR hT hS
    go_enter Tryd.func5, Tryd.ntmps5
    go_wp2
    go_ret
    exact ⟨rfl, Below.refl _ _⟩
  · have href := fun w hR => ref_any A c l w hR hl hcap
    have HREF := Lib.hid href
    have HR := Lib.hid hR
    have HT := Lib.hid hT
    have HST := Lib.hid hS
    clear hR hT hS href
    go_enter Tryd.func5, Tryd.ntmps5
    go_wp2_with (at_builtin; refine wpList_append_copy _ rfl _ _ rfl w.heap.size A c l rfl rfl (HR.out.below ((Below.refl w.heap.size w).alloc (Nat.le_refl _) _)) (by omega) ?_)
    intro g0 cp w1 hR1 hb hcp2
    have HR1 := Lib.hid hR1
    have hbw := ((Below.refl w.heap.size w).alloc (Nat.le_refl _) _).trans (hb.mono (by simp))
    clear hR1 hb
    go_wp2_with fail
    refine (HREF.out _ (HR.out.below hbw)).mono ?_
    rintro e w2 ⟨⟨v, rfl, hown⟩, hb⟩
    rw [← scan_is_ref] at hown ⊢
    have hown := hown.mono hbw.size
    have hR2 := HR1.out.below hb
    have HR2 := Lib.hid hR2
    have hbw2 := hbw.trans (hb.mono hbw.size)
    clear hR2 hb hbw HR1
    have hz : ∃ r, scanOf l = r := ⟨_, rfl⟩
    obtain ⟨r, hr⟩ := hz
    rw [hr] at hown ⊢
    have HRES := Lib.hid hr
    clear hr
    obtain ⟨Aw, cw, rfl, _, _⟩ := tokRow_of_own hown
    go_wp2_with fail
    go_loopg [8] 3 (fun g i wx => ∃ k : Nat, i = .int .i64 k ∧ k ≤ 2 ∧ 2 - k < g ∧ Below w.heap.size w wx ∧ wx.ownsRow w.heap.size 36 5 (.slice Aw r.1.length cw) r.1.length (tokCells r.1) ∧ Hid (ByteRow wx (some ⟨g0, 0, none⟩) l))
    case atStart => exact ⟨0, rfl, by omega, by omega, hbw2, hown, HR2⟩
    case round =>
      obtain ⟨k, rfl, hk, hg, hbw, hown, hRm⟩ := hrel
      obtain ⟨g, rfl⟩ : ∃ g, gk = g + 1 := ⟨gk - 1, by omega⟩
      clear hbw2 HR2
      by_cases hk2 : k < 2
      · go_wp2_with fail
        refine (scan_any (some ⟨g0, 0, none⟩) cp l _ hRm.out hl (HT.out.below hbw) (HST.out.below hbw)).mono ?_
        rintro e w3 ⟨⟨v2, rfl, hown2⟩, hb⟩
        rw [HRES.out] at hown2 ⊢
        obtain ⟨A1, c1, rfl, ht1, hn1⟩ := tokRow_of_own hown2
        have hwant3 := own_below hown hb
        obtain ⟨A2, c2, e2, ht2, _⟩ := tokRow_of_own hwant3
        simp only [Value.slice.injEq, true_and] at e2
        obtain ⟨rfl, rfl⟩ := e2
        have hsame := same_any A1 Aw c1 cw r.1 r.1 true w3 ht1 ht2 hn1 hn1
        rw [sameToks_self] at hsame
        have HSAME := Lib.hid hsame
        clear hsame ht1 ht2
        go_wp2_with fail
        refine HSAME.out.mono ?_
        rintro e w4 ⟨rfl, hb4⟩
        have hown4 := own_below hown2 hb4
        have hbr := hb.trans (hb4.mono hb.size)
        have hcv1 := convert_row cp (hRm.out.below hbr)
        have hcv2 := convert_row c (HR.out.below (hbw.trans (hbr.mono hbw.size)))
        clear hb hb4 hown2 hwant3 HSAME
        go_wp2_with fail
        clear hcv1 hcv2
        go_loopg [13] (r.1.length + 1) (fun g2 i wx => ∃ (j : Nat) (ys : List Value), i = .int .i64 j ∧ j ≤ r.1.length ∧ r.1.length - j < g2 ∧ wx.ownsRow wr.heap.size 36 5 (.slice A1 r.1.length c1) r.1.length ys ∧ Below wr.heap.size wr wx)
        case atStart => exact ⟨0, _, rfl, by omega, by omega, hown4, hbr⟩
        case round =>
          obtain ⟨j, ys, rfl, hj, hg2, hown5, hbr5⟩ := hrel
          obtain ⟨g2, rfl⟩ : ∃ x, gk = x + 1 := ⟨gk - 1, by omega⟩
          by_cases hjn : j < r.1.length
          · rcases own_form hown5 with ⟨_, h0⟩ | ⟨gb, cap, e3, _, _⟩
            · omega
            · simp only [Value.slice.injEq, true_and] at e3
              obtain ⟨rfl, rfl⟩ := e3
              have hlen := hown5.1
              have hcell := hown5.cellAt (j * 5) (by omega)
              have hlt : j * 5 < ys.length := by omega
              rw [List.getElem?_eq_getElem hlt] at hcell
              generalize ys[j * 5] = yv at *
              have hfr := hown5.frozenAt (j * 5)
              have hst := hown5.stored (j * 5) (.int .u8 77)
              have hlow := (own_lt6 hown5).2
              have HST2 := Lib.hid hst
              clear hst hlen hown5 hown4 hbr hlt
              go_wp2_with fail
              go_roundg g2
              case measure => omega
              case rel => exact ⟨j + 1, _, by go_num, by omega, by omega, HST2.out.1, hbr5.setCell (p := ⟨gb, j * 5, none⟩) hlow _⟩
          · have hje : j = r.1.length := by omega
            go_wp2_with fail
            go_roundg g
            case measure => omega
            case rel =>
              refine ⟨k + 1, by go_num, by omega, by omega, hbw.trans (hbr5.mono hbw.size), own_below hown hbr5, ?_⟩
              have := hRm.out.below hbr5
              exact Lib.hid this
      · go_wp2_with fail
        go_ret
        exact ⟨rfl, hbw⟩

set_option maxRecDepth 100000 in
theorem scanTells_calls {H : Type} (enc : TypeId × Value → H) (W : World) (base : Nat) (args : Array Value) (ds : List (DataW H)) (p : List MemPlace)
    (hval : ∀ (j : Nat) t v, Tryd.f5.params[j]? = some t → args[j]? = some v → Value.okWide Tryd.prog W .any base t v)
    (hA : DataW.TrodAll enc Tryd.prog W 0 (fun _ => true) true Tryd.f5.params.toList args.toList ds p)
    (hsz : (DataW.weightsEach Tryd.prog (Tryd.f5.params.toList ++ Rows.scanTellsSpec.plain.varTypes Tryd.prog) (ds ++ [])).all (· ≤ reachBytes) = true)
    (hL : laidMetH Tryd.prog Rows.scanTellsRow.laid W) :
    Calls Tryd.prog 5 args W fun e W' => e = .returned (.bool true) ∧ Below W.heap.size W W' ∧ (Rows.scanTellsSpec.fn H (ds ++ [])) = { results := [.lit (.bool true)], args := ds } := by
  have hT : ScanTabs W := scanTabs_of (by kernel_rfl) hL (by repeat (first | exact List.mem_cons_self | apply List.mem_cons_of_mem)) (by repeat (first | exact List.mem_cons_self | apply List.mem_cons_of_mem))
  have hS : StrTabs W := strTabs_of (by kernel_rfl) hL (by repeat (first | exact List.mem_cons_self | apply List.mem_cons_of_mem)) (by repeat (first | exact List.mem_cons_self | apply List.mem_cons_of_mem))
  rw [Tryd.params5] at hA hval
  obtain ⟨v0, d0, rfl, rfl, h0⟩ := trodAll_one hA
  obtain ⟨a0, len, cap, rfl⟩ := okWide_slice Tryd.underlying27 (hval 0 27 v0 rfl rfl)
  obtain ⟨fuel, hf⟩ := h0
  obtain ⟨l, rfl, hR, hl, hc⟩ := open_bytes hf
  exact (scanTells_walk a0 cap l W hR hl hc hT hS).mono fun e W' h => ⟨h.1, h.2, rfl⟩
end Go.Proofs.YtjfoinikdifgmaaDoor
