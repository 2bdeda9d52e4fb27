/- The law ScanPlaces: its walk, and what its row asks. -/
import Derived.Test.YtjfoinikdifgmaaDoorPlaces
import Derived.Test.YtjfoinikdifgmaaDoorAwake
import Derived.Test.YtjfoinikdifgmaaDoorScanWords
import Derived.Test.YtjfoinikdifgmaaDoorRow
import Derived.Deep.Cut
namespace Go.Proofs.YtjfoinikdifgmaaDoor
open Go.ChangeShapes Go.WideShapes Go.ChangeAt Go.RowKit
set_option linter.unusedVariables false
set_option linter.unusedSimpArgs false

theorem byteRow_sub {w : World} {b o : Nat} {l : List UInt8} (h : ByteRow w (some ⟨b, o, none⟩) l) (i n : Nat) : ByteRow w (some ⟨b, o + i, none⟩) ((l.drop i).take n) := fun k hk => by
  have hk' : k < n ∧ i + k < l.length := by simp at hk; omega
  obtain ⟨b1, o1, he, hb1, hc⟩ := h (i + k) hk'.2
  cases he
  refine ⟨b, o + i, rfl, hb1, ?_⟩
  rw [List.getElem_take, List.getElem_drop, Nat.add_assoc]
  exact hc

set_option maxHeartbeats 8000000 in
set_option maxRecDepth 100000 in
theorem scanPlaces_walk (A : Option Addr) (c : Nat) (l : List UInt8) (w : World) (hR : ByteRow w A l) (hl : l.length ≤ 9223372036854775807) (hcap : l.length ≤ c) (hT : ScanTabs w) (hS : StrTabs w) :
    Calls Tryd.prog 6 #[.slice A l.length c] w fun e w' => e = .returned (.bool true) ∧ Below w.heap.size w w' := by
  have haw := awake_any w hT hS
  have HAW := Lib.hid haw
  have HT := Lib.hid hT
  have HST := Lib.hid hS
  have HR := Lib.hid hR
  clear haw hT hS hR
  by_cases hlong : 2000 < l.length
  · go_enter Tryd.func6, Tryd.ntmps6
    go_wp2_with fail
    refine HAW.out.mono ?_
    rintro e w1 ⟨rfl, hb⟩
    go_wp2_with fail
    go_ret
    exact ⟨rfl, hb⟩
  · have hpl := scan_placed (l := l) (by omega)
    obtain ⟨toks, a, b, er, hres⟩ : ∃ toks a b er, scanOf l = (toks, a, b, er) := ⟨_, _, _, _, rfl⟩
    rw [hres] at hpl
    simp only at hpl
    have HRES := Lib.hid hres
    clear hres
    rcases hpl with ⟨rfl, hpl⟩ | ⟨rfl, p, hp1, hp2, hp3, hp4, hp5, hp6⟩
    · have HPL := Lib.hid hpl
      clear hpl
      go_enter Tryd.func6, Tryd.ntmps6
      go_wp2_with fail
      refine HAW.out.mono ?_
      rintro e w1 ⟨rfl, hb⟩
      go_wp2_with fail
      refine (scan_any A c l w1 (HR.out.below hb) hl (HT.out.below hb) (HST.out.below hb)).mono ?_
      rintro e w2 ⟨⟨v, rfl, hown⟩, hb2⟩
      rw [HRES.out] at hown ⊢
      have hbw := hb.trans (hb2.mono hb.size)
      have hown := hown.mono hb.size
      obtain ⟨A1, c1, rfl, _, hn⟩ := tokRow_of_own hown
      simp only at hown ⊢
      clear hb hb2
      go_wp2_with fail
      go_loopg [8, 9] (toks.length + 1) (fun g x i wx => ∃ (k last : Nat), x = .int .i64 last ∧ i = .int .i64 k ∧ k ≤ toks.length ∧ toks.length - k < g ∧ last ≤ l.length ∧ Below w.heap.size w wx ∧ wx.ownsRow w.heap.size 36 5 (.slice A1 toks.length c1) toks.length (tokCells toks) ∧ Hid (Placed l last (toks.drop k)))
      case atStart => exact ⟨0, 0, rfl, rfl, by omega, by omega, by omega, hbw, hown, HPL⟩
      case round =>
        obtain ⟨k, last, rfl, rfl, hk, hg, hlast, hbw, hown, hpl⟩ := hrel
        obtain ⟨g, rfl⟩ : ∃ g, gk = g + 1 := ⟨gk - 1, by omega⟩
        by_cases hkn : k < toks.length
        · obtain ⟨A2, c2, e2, ht2, _⟩ := tokRow_of_own hown
          simp only [Value.slice.injEq, true_and] at e2
          obtain ⟨rfl, rfl⟩ := e2
          obtain ⟨b1, o1, rfl, hb1, ht⟩ := ht2 k hkn
          have hp := hpl.out
          rw [List.drop_eq_getElem_cons hkn] at hp
          obtain ⟨p, ⟨q1, q2, q3, q4⟩, q5, q6, q7, q8, q9, q10, q11⟩ := placed_end hp
          clear ht2 hpl hp
          generalize toks[k] = t at *
          have a1 := ht.c1
          have a3 := ht.c3
          have a4 := ht.c4
          clear ht
          have hRw := HR.out.below hbw
          have hl0 : 0 < l.length := by omega
          obtain ⟨b0, o0, rfl, hblt, hc0⟩ := hRw 0 hl0
          clear hc0
          have hoff := fun w' hR => offset_any (some ⟨b0, o0, none⟩) c l t.line t.col w' hR (by omega) q1 (by omega) (by omega) (by omega)
          rw [q5] at hoff
          have HOFF := Lib.hid hoff
          have HRW := Lib.hid hRw
          have HQ9 := Lib.hid q9
          have HQ10 := Lib.hid q10
          have HQ11 := Lib.hid q11
          clear hoff hRw q5 q9 q10 q11
          have hsub1 : ((l.drop last).take (p - last)).length = p - last := by rw [List.length_take, List.length_drop]; omega
          have hsub2 : ((l.drop p).take t.text.size).length = t.text.size := by rw [List.length_take, List.length_drop]; omega
          have hgap := fun w' (hR : ByteRow w' (some ⟨b0, o0, none⟩) l) => gap_any (some ⟨b0, o0 + last, none⟩) (c - last) ((l.drop last).take (p - last)) w' (byteRow_sub hR last (p - last)) (by omega)
          rw [hsub1, HQ10.out] at hgap
          have HGAP := Lib.hid hgap
          go_upto_region 13 with fail
          go_quiet (exact Calls.quiet_of_same (HOFF.out _ (HRW.out.below (below_drewN (Below.refl _ _) _))))
          have hbw3 := below_drewN hbw nq
          have hown3 := own_below hown (below_drewN (Below.refl wr.heap.size wr) nq)
          have HR3 := Lib.hid (HRW.out.below (below_drewN (Below.refl wr.heap.size wr) nq))
          have d1 : (wr.drewN nq).cell? ⟨b1, o1 + k * 5 + 1, none⟩ = some (.string t.text) := cell_later (below_drewN (Below.refl wr.heap.size wr) nq) a1
          generalize wr.drewN nq = w5 at *
          have s1 : IntKind.i64.wrap ((p : Int) + t.text.size) = p + t.text.size := IntWalk.i64_in _ (by omega)
          have s2 : IntKind.i64.wrap ((l.length : Int) - p) = l.length - p := IntWalk.i64_in _ (by omega)
          have hcv : ∀ n, (convert 27 9 (.slice (some ⟨b0, o0 + p, none⟩) (((p : Int) + (t.text.size : Int)).toNat - p) (c - p))).run Tryd.prog (w5.drewN n) = .ok (.string t.text) (w5.drewN n) := fun n => by
            have := convert_row (c - p) (byteRow_sub (HR3.out.below (below_drewN (Below.refl w5.heap.size w5) n)) p t.text.size)
            have e3 : ((p : Int) + (t.text.size : Int)).toNat - p = t.text.size := by omega
            rw [hsub2, HQ9.out] at this
            rw [e3]
            have e : bytesOf t.text.data.toList = t.text := by simp [bytesOf]
            rwa [e] at this
          clear a1 a3 a4 hbw hown HOFF HRW
          go_upto_region 14 with fail
          have i1 : (1 : Int) ≤ (t.text.size : Int) := by omega
          have i2 : (t.text.size : Int) ≤ (l.length : Int) - p := by omega
          have i3 : (last : Int) ≤ (p : Int) := by omega
          have i4 : (p : Int) ≤ (p : Int) + t.text.size := by omega
          have i5 : (p : Int) + t.text.size ≤ (c : Int) := by omega
          have i6 : (p : Int) ≤ (c : Int) := by omega
          have i7 : (0 : Int) ≤ (p : Int) := by omega
          have i8 : (0 : Int) ≤ (last : Int) := by omega
          have j1 : ¬ c = p := by omega
          have j2 : ¬ c = last := by omega
          go_quiet (exact Calls.quiet_of_same (HGAP.out _ (HR3.out.below (below_drewN (Below.refl _ _) _))))
          have hbw6 := below_drewN hbw3 nq
          have hown6 := own_below hown3 (below_drewN (Below.refl w5.heap.size w5) nq)
          have d2 : (w5.drewN nq).cell? ⟨b1, o1 + k * 5 + 1, none⟩ = some (.string t.text) := cell_later (below_drewN (Below.refl w5.heap.size w5) nq) d1
          generalize w5.drewN nq = w6 at *
          clear s1 s2 hcv HGAP HR3 hbw3 hown3 d1 i2 i3 i4 i5 i6 i8 j1 j2
          go_wp2_with fail
          go_roundg g
          case measure => omega
          case rel => exact ⟨k + 1, p + t.text.size, by go_num, by go_num, by omega, by omega, by omega, hbw6, hown6, HQ11⟩
        · have hke : k = toks.length := by omega
          have hp := hpl.out
          rw [hke, List.drop_length] at hp
          have hgo : gapOf (l.drop last) = true := by unfold Placed at hp; exact hp
          have hdl : (l.drop last).length = l.length - last := List.length_drop
          have hgap : ∀ (A' : Option Addr) (c' n : Nat), n = l.length - last → ByteRow wr A' (l.drop last) → Calls Tryd.prog 25 #[.slice A' n c'] wr fun e w' => e = .returned (.bool true) ∧ w' = wr := fun A' c' n hn hR => by
            have := gap_any A' c' (l.drop last) wr hR (by omega)
            rw [hgo, hdl] at this
            rw [hn]
            exact this
          have HGAP := Lib.hid hgap
          have HRW := Lib.hid (HR.out.below hbw)
          have HDL := Lib.hid hdl
          have HPK := Lib.hid hkn
          clear hgap hp hpl hgo hdl hown
          have i1 : (last : Int) ≤ (l.length : Int) := by omega
          have i2 : (last : Int) ≤ (c : Int) := by omega
          by_cases hl0 : l.length = 0
          · have hl1 : last = 0 := by omega
            subst hl1
            go_wp2_with fail
            refine (HGAP.out _ _ _ ?_ ?_).mono ?_
            · omega
            · intro j hj
              have := HDL.out
              omega
            rintro e w7 ⟨rfl, rfl⟩
            go_wp2_with fail
            go_ret
            exact ⟨rfl, hbw⟩
          · obtain ⟨b0, o0, rfl, hblt, hc0⟩ := HRW.out 0 (by omega)
            clear hc0
            have hsub : ByteRow wr (some ⟨b0, o0 + last, none⟩) (l.drop last) := by
              have := byteRow_sub HRW.out last (l.length - last)
              rwa [List.take_of_length_le (by rw [List.length_drop]; omega)] at this
            have HSUB := Lib.hid hsub
            clear hsub
            by_cases hcl : c = last
            · have hll : l.length - last = 0 := by omega
              have hll2 : last = l.length := by omega
              go_wp2_with fail
              refine (HGAP.out _ _ _ ?_ ?_).mono ?_
              · omega
              · intro j hj
                have := HDL.out
                omega
              rintro e w7 ⟨rfl, rfl⟩
              go_wp2_with fail
              go_ret
              exact ⟨rfl, hbw⟩
            · go_wp2_with fail
              refine (HGAP.out _ _ _ ?_ HSUB.out).mono ?_
              · omega
              rintro e w7 ⟨rfl, rfl⟩
              go_wp2_with fail
              go_ret
              exact ⟨rfl, hbw⟩
    · have hoff := fun w' hR => offset_any A c l a b w' hR (by omega) hp3 (by omega) (by omega) (by omega)
      rw [hp2] at hoff
      have HOFF := Lib.hid hoff
      have i1 : (0 : Int) ≤ (p : Int) := by omega
      have i2 : (p : Int) < (l.length : Int) := by omega
      clear hoff hp2 hp3 hp4 hp5 hp6
      go_enter Tryd.func6, Tryd.ntmps6
      go_wp2_with fail
      refine HAW.out.mono ?_
      rintro e w1 ⟨rfl, hb⟩
      go_wp2_with fail
      refine (scan_any A c l w1 (HR.out.below hb) hl (HT.out.below hb) (HST.out.below hb)).mono ?_
      rintro e w2 ⟨⟨v, rfl, hown⟩, hb2⟩
      rw [HRES.out] at hown ⊢
      have hbw := hb.trans (hb2.mono hb.size)
      clear hb hb2 hown
      go_wp2_with fail
      refine (HOFF.out _ (HR.out.below hbw)).mono ?_
      rintro e w3 ⟨rfl, rfl⟩
      go_wp2_with fail
      go_ret
      exact ⟨rfl, hbw⟩

set_option maxRecDepth 100000 in
theorem scanPlaces_calls {H : Type} (enc : TypeId × Value → H) (W : World) (base : Nat) (args : Array Value) (ds : List (DataW H)) (p : List MemPlace)
    (hval : ∀ (j : Nat) t v, Tryd.f6.params[j]? = some t → args[j]? = some v → Value.okWide Tryd.prog W .any base t v)
    (hA : DataW.TrodAll enc Tryd.prog W 0 (fun _ => true) true Tryd.f6.params.toList args.toList ds p)
    (hsz : (DataW.weightsEach Tryd.prog (Tryd.f6.params.toList ++ Rows.scanPlacesSpec.plain.varTypes Tryd.prog) (ds ++ [])).all (· ≤ reachBytes) = true)
    (hL : laidMetH Tryd.prog Rows.scanPlacesRow.laid W) :
    Calls Tryd.prog 6 args W fun e W' => e = .returned (.bool true) ∧ Below W.heap.size W W' ∧ (Rows.scanPlacesSpec.fn H (ds ++ [])) = { results := [.lit (.bool true)], args := ds } := by
  have hT : ScanTabs W := scanTabs_of (by kernel_rfl) hL (by repeat (first | exact List.mem_cons_self | apply List.mem_cons_of_mem)) (by repeat (first | exact List.mem_cons_self | apply List.mem_cons_of_mem))
  have hS : StrTabs W := strTabs_of (by kernel_rfl) hL (by repeat (first | exact List.mem_cons_self | apply List.mem_cons_of_mem)) (by repeat (first | exact List.mem_cons_self | apply List.mem_cons_of_mem))
  rw [Tryd.params6] at hA hval
  obtain ⟨v0, d0, rfl, rfl, h0⟩ := trodAll_one hA
  obtain ⟨a0, len, cap, rfl⟩ := okWide_slice Tryd.underlying27 (hval 0 27 v0 rfl rfl)
  obtain ⟨fuel, hf⟩ := h0
  obtain ⟨l, rfl, hR, hl, hc⟩ := open_bytes hf
  exact (scanPlaces_walk a0 cap l W hR hl hc hT hS).mono fun e W' h => ⟨h.1, h.2, rfl⟩
end Go.Proofs.YtjfoinikdifgmaaDoor
