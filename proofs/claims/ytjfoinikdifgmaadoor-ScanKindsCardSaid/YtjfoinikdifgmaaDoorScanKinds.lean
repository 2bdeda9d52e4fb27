/- The law ScanKinds: its walk, and what its row asks. -/
import Derived.Test.YtjfoinikdifgmaaDoorRefLaws
import Derived.Test.YtjfoinikdifgmaaDoorAwake
import Derived.Test.YtjfoinikdifgmaaDoorScanWords
import Derived.Test.YtjfoinikdifgmaaDoorRow
import Derived.Deep.Cut
import Derived.Deep.RegionHeld3
import Derived.Test.YtjfoinikdifgmaaDoorHeld
namespace Go.Proofs.YtjfoinikdifgmaaDoor
open Go.ChangeShapes Go.WideShapes Go.ChangeAt Go.RowKit
open Go.ChangeMaps (open_string shut_string)
set_option linter.unusedVariables false
set_option linter.unusedSimpArgs false

theorem cell_drew {w : World} {a : Addr} {v : Value} (h : w.cell? a = some v) : w.drew.cell? a = some v := h
def Own5 (w w' : World) (v : Value) (l : List Tok) : Prop := Below w.heap.size w w' ∧ w'.ownsRow w.heap.size 36 5 v l.length (tokCells l)
theorem held_bw {w w' : World} {a b c : Addr} {x y z v : Value} {l : List Tok} (h : w'.cell? a = some x ∧ w'.cell? b = some y ∧ w'.cell? c = some z ∧ Hid (Own5 w w' v l)) : Below w.heap.size w w' := h.2.2.2.out.1
theorem held_own {w w' : World} {a b c : Addr} {x y z v : Value} {l : List Tok} (h : w'.cell? a = some x ∧ w'.cell? b = some y ∧ w'.cell? c = some z ∧ Hid (Own5 w w' v l)) : w'.ownsRow w.heap.size 36 5 v l.length (tokCells l) := h.2.2.2.out.2
theorem held_next {w w1 w2 : World} {a b c : Addr} {x y z v : Value} {l : List Tok} (hb : Below w1.heap.size w1 w2) (h : w1.cell? a = some x ∧ w1.cell? b = some y ∧ w1.cell? c = some z ∧ Hid (Own5 w w1 v l)) :
    w2.cell? a = some x ∧ w2.cell? b = some y ∧ w2.cell? c = some z ∧ Hid (Own5 w w2 v l) :=
  ⟨cell_later hb h.1, cell_later hb h.2.1, cell_later hb h.2.2.1, Lib.hid ⟨h.2.2.2.out.1.trans (hb.mono h.2.2.2.out.1.size), own_below h.2.2.2.out.2 hb⟩⟩
set_option maxHeartbeats 4000000 in
set_option maxRecDepth 100000 in
theorem scanKinds_walk (A : Option Addr) (c : Nat) (l : List UInt8) (s : ByteArray) (w : World) (hR : ByteRow w A l) (hl : l.length ≤ 9223372036854775807) (hs : s.size ≤ 9223372036854775807) (hT : ScanTabs w) (hS : StrTabs w) :
    Calls Tryd.prog 8 #[.slice A l.length c, .string s] w fun e w' => e = .returned (.bool true) ∧ Below w.heap.size w w' := by
  have haw := awake_any w hT hS
  have HAW := Lib.hid haw
  have HT := Lib.hid hT
  have HST := Lib.hid hS
  have HR := Lib.hid hR
  clear haw hT hS hR
  by_cases hlong : 2000 < l.length
  · go_enter Tryd.func8, Tryd.ntmps8
    go_wp2_with fail
    refine HAW.out.mono ?_
    rintro e w1 ⟨rfl, hb⟩
    go_wp2_with fail
    go_ret
    exact ⟨rfl, hb⟩
  · by_cases hlong2 : 12 < s.size
    · go_enter Tryd.func8, Tryd.ntmps8
      go_wp2_with fail
      refine HAW.out.mono ?_
      rintro e w1 ⟨rfl, hb⟩
      go_wp2_with fail
      go_ret
      exact ⟨rfl, hb⟩
    · have hres : ∃ toks a b e, scanOf l = (toks, a, b, e) ∧ (e = 0 ∨ toks = []) := by
        rcases scan_res (l := l) (by omega) with h | ⟨a', b', h, _⟩
        · exact ⟨(scanOf l).1, 0, 0, 0, by rw [← h], .inl rfl⟩
        · exact ⟨_, _, _, _, h, .inr rfl⟩
      obtain ⟨toks, a, b, er, hres, her⟩ := hres
      have hkinds := scan_kinds (l := l)
      rw [hres] at hkinds
      have HRES := Lib.hid hres
      have HER := Lib.hid her
      have HK := Lib.hid hkinds
      have hone : isName s = true ∨ isWord s = true ∨ isSign s = true → ∃ t, scanOf s.data.toList = ([t], 0, 0, 0) ∧ t.text = s ∧ t.line = 1 ∧ t.col = 1 := by
        rintro (h | h | h)
        · exact scan_name h
        · exact scan_word h (by omega)
        · exact scan_sign h (by omega)
      have HONE := Lib.hid hone
      clear hres her hkinds hone
      go_enter Tryd.func8, Tryd.ntmps8
      go_wp2_with fail
      refine HAW.out.mono ?_
      rintro e w1 ⟨rfl, hb⟩
      go_wp2_with fail
      refine (scan_any A c l w1 (HR.out.below hb) hl (HT.out.below hb) (HST.out.below hb)).mono ?_
      rintro e w2 ⟨⟨v, rfl, hown⟩, hb2⟩
      rw [HRES.out] at hown ⊢
      have hbw := hb.trans (hb2.mono hb.size)
      have hown := hown.mono hb.size
      obtain ⟨A1, c1, rfl, _, hn⟩ := tokRow_of_own hown
      simp only at hown ⊢
      clear hb hb2
      go_wp2_with fail
      go_loopg [9] (toks.length + 1) (fun g i wx => ∃ k : Nat, i = .int .i64 k ∧ k ≤ toks.length ∧ toks.length - k < g ∧ Below w.heap.size w wx ∧ wx.ownsRow w.heap.size 36 5 (.slice A1 toks.length c1) toks.length (tokCells toks))
      case atStart => exact ⟨0, rfl, by omega, by omega, hbw, hown⟩
      case round =>
        obtain ⟨k, rfl, hk, hg, hbw, hown⟩ := hrel
        obtain ⟨g, rfl⟩ : ∃ g, gk = g + 1 := ⟨gk - 1, by omega⟩
        by_cases hkn : k < toks.length
        · have her0 : (er != 0) = false := by
            rcases HER.out with h | h
            · rw [h]; rfl
            · rw [h] at hkn; simp at hkn
          obtain ⟨A2, c2, e2, ht2, _⟩ := tokRow_of_own hown
          simp only [Value.slice.injEq, true_and] at e2
          obtain ⟨rfl, rfl⟩ := e2
          obtain ⟨b1, o1, rfl, hb1, ht⟩ := ht2 k hkn
          have hki := HK.out toks[k] (List.getElem_mem hkn)
          have HKI := Lib.hid hki
          have htx : toks[k].text.size ≤ 9223372036854775807 := by
            have := scan_text_le (l := l) (t := toks[k]) (by rw [HRES.out]; exact List.getElem_mem hkn)
            omega
          have HKT := Lib.hid htx
          clear ht2 hki htx
          generalize toks[k] = t at *
          have a0 := ht.c0
          have a1 := ht.c1
          have a2 := ht.c2
          have a3 := ht.c3
          have a4 := ht.c4
          clear ht
          go_upto_region 10 with fail
          have hbn := hbw.alloc hbw.size (Obj.cells #[Value.int IntKind.u8 t.kind, Value.string t.text, Value.int IntKind.i64 t.num, Value.int IntKind.i64 t.line, Value.int IntKind.i64 t.col] 36)
          have hownn := hown.alloc (Obj.cells #[Value.int IntKind.u8 t.kind, Value.string t.text, Value.int IntKind.i64 t.num, Value.int IntKind.i64 t.line, Value.int IntKind.i64 t.col] 36)
          have hblk := TokBlk.new wr t
          have hlow := hbw.size
          generalize wr.heap.size = bx at *
          generalize wr.alloc (Obj.cells #[Value.int IntKind.u8 t.kind, Value.string t.text, Value.int IntKind.i64 t.num, Value.int IntKind.i64 t.line, Value.int IntKind.i64 t.col] 36) = wn at *
          clear a0 a1 a2 a3 a4 hown hbw
          have hcn : ∀ w', Below w.heap.size w w' → Calls Tryd.prog 18 #[.string t.text] w' fun e w'' => e = .returned (.bool (t.kind == 1)) ∧ Below w'.heap.size w' w'' := fun w' hb => by
            have := name_any t.text w' (HT.out.below hb) HKT.out
            rwa [HKI.out.name] at this
          have hcw : ∀ w', Below w.heap.size w w' → Calls Tryd.prog 14 #[.string t.text] w' fun e w'' => e = .returned (.bool (t.kind == 3)) ∧ w'' = w' := fun w' hb => by
            have := word_any t.text w' (HT.out.below hb)
            rwa [HKI.out.word] at this
          have hcs : ∀ w', Below w.heap.size w w' → Calls Tryd.prog 16 #[.string t.text] w' fun e w'' => e = .returned (.bool (t.kind == 4)) ∧ w'' = w' := fun w' hb => by
            have := sign_any t.text w' (HT.out.below hb)
            rwa [HKI.out.sign] at this
          have hnum := HKI.out.num
          have hpos := HKI.out.pos
          have hkd := HKI.out.kind
          have p0 := hblk.c0
          have p1 := hblk.c1
          have p2 := hblk.c2
          clear HKI HKT hblk
          obtain ⟨tk, tx, tn, tl, tc⟩ := t
          simp only at hcn hcw hcs hnum hpos hkd p0 p1 p2 ⊢
          have hk4 : tk = 1 ∨ tk = 2 ∨ tk = 3 ∨ tk = 4 := by omega
          clear hkd
          rcases hk4 with rfl | hk2 | rfl | rfl
          · have h0 := hnum (by decide)
            subst h0
            have HN := Lib.hid hcn
            have HW := Lib.hid hcw
            have HG := Lib.hid hcs
            clear hcn hcw hcs hnum
            go_region_held3 (fun w' => w'.cell? ⟨bx, 0, none⟩ = some (.int .u8 1) ∧ w'.cell? ⟨bx, 1, none⟩ = some (.string tx) ∧ w'.cell? ⟨bx, 2, none⟩ = some (.int .i64 0) ∧ Hid (Own5 w w' (.slice (some ⟨b1, o1, none⟩) toks.length c1) toks))
              (first | assumption | exact ⟨cell_drew p0, cell_drew p1, cell_drew p2, Lib.hid ⟨hbn.drew, hownn.drew⟩⟩ | exact held_next (by assumption) (by assumption))
              (first | (go_at_call 18; refine (HN.out _ ?_).mono ?_; (exact held_bw (by assumption)); rintro e wk ⟨rfl, hbk⟩) | (go_at_call 14; refine (HW.out _ ?_).mono ?_; (exact held_bw (by assumption)); rintro e wk ⟨rfl, rfl⟩) | (go_at_call 16; refine (HG.out _ ?_).mono ?_; (exact held_bw (by assumption)); rintro e wk ⟨rfl, rfl⟩))
            all_goals
              go_wp2_with fail
              go_roundg g
              case measure => omega
              case rel => exact ⟨k + 1, by go_num, by omega, by omega, held_bw (by assumption), held_own (by assumption)⟩
          · subst hk2
            clear hnum
            have HN := Lib.hid hcn
            have HW := Lib.hid hcw
            have HG := Lib.hid hcs
            clear hcn hcw hcs
            refine wp_region_held_drew (S := (fun w' => w'.cell? ⟨bx, 0, none⟩ = some (.int .u8 2) ∧ w'.cell? ⟨bx, 1, none⟩ = some (.string tx) ∧ w'.cell? ⟨bx, 2, none⟩ = some (.int .i64 tn) ∧ Hid (Own5 w w' (.slice (some ⟨b1, o1, none⟩) toks.length c1) toks))) (by kernel_rfl) ⟨cell_drew p0, cell_drew p1, cell_drew p2, Lib.hid ⟨hbn.drew, hownn.drew⟩⟩ (fun hHeld => ?_)
            refine heldTake (i := 0) (N := (some 42)) (v := ?_) (a' := ?_) #[true, false, false, false, false, false, false, false, false, false, false, false, false, false, false, false, false, false, false, false, false, false, false, false, false, false, false, false, false, false, false, false, false, false, false, false, false, false, false, false, false, false, false, false, false, false, false, false, false, false, false, false, false, false] rfl rfl (by kernel_rfl) (by kernel_rfl) (by kernel_rfl) rfl (fun _ _ _ h => h) (Or.inl ⟨by rfl, ?_⟩) (by assumption) ?_ ?_
            rotate_left
            rotate_left
            · (intro w1 hSw; (try dsimp only at hSw); go_simp; try with_reducible rfl)
            · simp only [Act.put, List.setIfInBounds_toArray, List.set_cons_zero, List.set_cons_succ]
              rfl
            refine heldTake (i := 1) (N := (some 43)) (v := ?_) (a' := ?_) #[true, true, false, false, false, false, false, false, false, false, false, false, false, false, false, false, false, false, false, false, false, false, false, false, false, false, false, false, false, false, false, false, false, false, false, false, false, false, false, false, false, false, false, false, false, false, false, false, false, false, false, false, false, false] rfl rfl (by kernel_rfl) (by kernel_rfl) (by kernel_rfl) rfl (fun _ _ _ h => h) (Or.inl ⟨by rfl, ?_⟩) (by assumption) ?_ ?_
            rotate_left
            rotate_left
            · (intro w1 hSw; (try dsimp only at hSw); go_simp; try with_reducible rfl)
            · simp only [Act.put, List.setIfInBounds_toArray, List.set_cons_zero, List.set_cons_succ]
              rfl
            refine heldTake (i := 2) (N := (some 44)) (v := ?_) (a' := ?_) #[true, true, true, false, false, false, false, false, false, false, false, false, false, false, false, false, false, false, false, false, false, false, false, false, false, false, false, false, false, false, false, false, false, false, false, false, false, false, false, false, false, false, false, false, false, false, false, false, false, false, false, false, false, false] rfl rfl (by kernel_rfl) (by kernel_rfl) (by kernel_rfl) rfl (fun _ _ _ h => h) (Or.inl ⟨by rfl, ?_⟩) (by assumption) ?_ ?_
            rotate_left
            rotate_left
            · (intro w1 hSw; (try dsimp only at hSw); go_simp; try with_reducible rfl)
            · simp only [Act.put, List.setIfInBounds_toArray, List.set_cons_zero, List.set_cons_succ]
              rfl
            refine heldTake (i := 3) (N := (some 45)) (v := ?_) (a' := ?_) #[true, true, true, true, false, false, false, false, false, false, false, false, false, false, false, false, false, false, false, false, false, false, false, false, false, false, false, false, false, false, false, false, false, false, false, false, false, false, false, false, false, false, false, false, false, false, false, false, false, false, false, false, false, false] rfl rfl (by kernel_rfl) (by kernel_rfl) (by kernel_rfl) rfl (fun _ _ _ h => h) (Or.inl ⟨by rfl, ?_⟩) (by assumption) ?_ ?_
            rotate_left
            rotate_left
            · (intro w1 hSw; (try dsimp only at hSw); go_simp; try with_reducible rfl)
            · simp only [Act.put, List.setIfInBounds_toArray, List.set_cons_zero, List.set_cons_succ]
              rfl
            refine heldTake (i := 4) (N := (some 46)) (v := ?_) (a' := ?_) #[true, true, true, true, true, false, false, false, false, false, false, false, false, false, false, false, false, false, false, false, false, false, false, false, false, false, false, false, false, false, false, false, false, false, false, false, false, false, false, false, false, false, false, false, false, false, false, false, false, false, false, false, false, false] rfl rfl (by kernel_rfl) (by kernel_rfl) (by kernel_rfl) rfl (fun _ _ _ h => h) (Or.inl ⟨by rfl, ?_⟩) (by assumption) ?_ ?_
            rotate_left
            rotate_left
            · (intro w1 hSw; (try dsimp only at hSw); go_simp; try with_reducible rfl)
            · simp only [Act.put, List.setIfInBounds_toArray, List.set_cons_zero, List.set_cons_succ]
              rfl
            refine heldTake (i := 6) (N := (some 48)) (v := ?_) (a' := ?_) #[true, true, true, true, true, false, true, false, false, false, false, false, false, false, false, false, false, false, false, false, false, false, false, false, false, false, false, false, false, false, false, false, false, false, false, false, false, false, false, false, false, false, false, false, false, false, false, false, false, false, false, false, false, false] rfl rfl (by kernel_rfl) (by kernel_rfl) (by kernel_rfl) rfl (fun _ _ _ h => h) (Or.inl ⟨by rfl, ?_⟩) (by assumption) ?_ ?_
            rotate_left
            rotate_left
            · (intro w1 hSw; (try dsimp only at hSw); go_simp; try with_reducible rfl)
            · simp only [Act.put, List.setIfInBounds_toArray, List.set_cons_zero, List.set_cons_succ]
              rfl
            refine heldTake (i := 7) (N := (some 49)) (v := ?_) (a' := ?_) #[true, true, true, true, true, false, true, true, false, false, false, false, false, false, false, false, false, false, false, false, false, false, false, false, false, false, false, false, false, false, false, false, false, false, false, false, false, false, false, false, false, false, false, false, false, false, false, false, false, false, false, false, false, false] rfl rfl (by kernel_rfl) (by kernel_rfl) (by kernel_rfl) rfl (fun _ _ _ h => h) (Or.inl ⟨by rfl, ?_⟩) (by assumption) ?_ ?_
            rotate_left
            rotate_left
            · (intro w1 hSw; (try dsimp only at hSw); go_simp; try with_reducible rfl)
            · simp only [Act.put, List.setIfInBounds_toArray, List.set_cons_zero, List.set_cons_succ]
              rfl
            refine heldTake (i := 8) (N := (some 50)) (v := ?_) (a' := ?_) #[true, true, true, true, true, false, true, true, true, false, false, false, false, false, false, false, false, false, false, false, false, false, false, false, false, false, false, false, false, false, false, false, false, false, false, false, false, false, false, false, false, false, false, false, false, false, false, false, false, false, false, false, false, false] rfl rfl (by kernel_rfl) (by kernel_rfl) (by kernel_rfl) rfl (fun _ _ _ h => h) (Or.inl ⟨by rfl, ?_⟩) (by assumption) ?_ ?_
            rotate_left
            rotate_left
            · (intro w1 hSw; (try dsimp only at hSw); go_simp; try with_reducible rfl)
            · simp only [Act.put, List.setIfInBounds_toArray, List.set_cons_zero, List.set_cons_succ]
              rfl
            refine heldOne (i := 5) #[true, true, true, true, true, true, true, true, true, false, false, false, false, false, false, false, false, false, false, false, false, false, false, false, false, false, false, false, false, false, false, false, false, false, false, false, false, false, false, false, false, false, false, false, false, false, false, false, false, false, false, false, false, false] rfl (by kernel_rfl) rfl (fun K hK => ?_)
            go_simp
            refine (HN.out _ (held_bw hHeld)).mono ?_
            rintro e wk ⟨rfl, hbk⟩
            go_wp2_with fail
            refine hK.out _ _ (held_next hbk hHeld) (fun hHeld => ?_)
            clear hK K
            try simp only [Act.put, List.setIfInBounds_toArray, List.set_cons_zero, List.set_cons_succ]
            refine heldTake (i := 9) (N := (some 51)) (v := ?_) (a' := ?_) #[true, true, true, true, true, true, true, true, true, true, false, false, false, false, false, false, false, false, false, false, false, false, false, false, false, false, false, false, false, false, false, false, false, false, false, false, false, false, false, false, false, false, false, false, false, false, false, false, false, false, false, false, false, false] rfl rfl (by kernel_rfl) (by kernel_rfl) (by kernel_rfl) rfl (fun _ _ _ h => h) (Or.inl ⟨by rfl, ?_⟩) (by assumption) ?_ ?_
            rotate_left
            rotate_left
            · (intro w1 hSw; (try dsimp only at hSw); go_simp; try with_reducible rfl)
            · simp only [Act.put, List.setIfInBounds_toArray, List.set_cons_zero, List.set_cons_succ]
              rfl
            refine heldTake (i := 10) (N := (some 52)) (v := ?_) (a' := ?_) #[true, true, true, true, true, true, true, true, true, true, true, false, false, false, false, false, false, false, false, false, false, false, false, false, false, false, false, false, false, false, false, false, false, false, false, false, false, false, false, false, false, false, false, false, false, false, false, false, false, false, false, false, false, false] rfl rfl (by kernel_rfl) (by kernel_rfl) (by kernel_rfl) rfl (fun _ _ _ h => h) (Or.inl ⟨by rfl, ?_⟩) (by assumption) ?_ ?_
            rotate_left
            rotate_left
            · (intro w1 hSw; (try dsimp only at hSw); go_simp; try with_reducible rfl)
            · simp only [Act.put, List.setIfInBounds_toArray, List.set_cons_zero, List.set_cons_succ]
              rfl
            refine heldTake (i := 11) (N := (some 53)) (v := ?_) (a' := ?_) #[true, true, true, true, true, true, true, true, true, true, true, true, false, false, false, false, false, false, false, false, false, false, false, false, false, false, false, false, false, false, false, false, false, false, false, false, false, false, false, false, false, false, false, false, false, false, false, false, false, false, false, false, false, false] rfl rfl (by kernel_rfl) (by kernel_rfl) (by kernel_rfl) rfl (fun _ _ _ h => h) (Or.inl ⟨by rfl, ?_⟩) (by assumption) ?_ ?_
            rotate_left
            rotate_left
            · (intro w1 hSw; (try dsimp only at hSw); go_simp; try with_reducible rfl)
            · simp only [Act.put, List.setIfInBounds_toArray, List.set_cons_zero, List.set_cons_succ]
              rfl
            refine heldTake (i := 12) (N := (some 54)) (v := ?_) (a' := ?_) #[true, true, true, true, true, true, true, true, true, true, true, true, true, false, false, false, false, false, false, false, false, false, false, false, false, false, false, false, false, false, false, false, false, false, false, false, false, false, false, false, false, false, false, false, false, false, false, false, false, false, false, false, false, false] rfl rfl (by kernel_rfl) (by kernel_rfl) (by kernel_rfl) rfl (fun _ _ _ h => h) (Or.inl ⟨by rfl, ?_⟩) (by assumption) ?_ ?_
            rotate_left
            rotate_left
            · (intro w1 hSw; (try dsimp only at hSw); go_simp; try with_reducible rfl)
            · simp only [Act.put, List.setIfInBounds_toArray, List.set_cons_zero, List.set_cons_succ]
              rfl
            refine heldTake (i := 13) (N := (some 55)) (v := ?_) (a' := ?_) #[true, true, true, true, true, true, true, true, true, true, true, true, true, true, false, false, false, false, false, false, false, false, false, false, false, false, false, false, false, false, false, false, false, false, false, false, false, false, false, false, false, false, false, false, false, false, false, false, false, false, false, false, false, false] rfl rfl (by kernel_rfl) (by kernel_rfl) (by kernel_rfl) rfl (fun _ _ _ h => h) (Or.inl ⟨by rfl, ?_⟩) (by assumption) ?_ ?_
            rotate_left
            rotate_left
            · (intro w1 hSw; (try dsimp only at hSw); go_simp; try with_reducible rfl)
            · simp only [Act.put, List.setIfInBounds_toArray, List.set_cons_zero, List.set_cons_succ]
              rfl
            refine heldTake (i := 15) (N := (some 57)) (v := ?_) (a' := ?_) #[true, true, true, true, true, true, true, true, true, true, true, true, true, true, false, true, false, false, false, false, false, false, false, false, false, false, false, false, false, false, false, false, false, false, false, false, false, false, false, false, false, false, false, false, false, false, false, false, false, false, false, false, false, false] rfl rfl (by kernel_rfl) (by kernel_rfl) (by kernel_rfl) rfl (fun _ _ _ h => h) (Or.inl ⟨by rfl, ?_⟩) (by assumption) ?_ ?_
            rotate_left
            rotate_left
            · (intro w1 hSw; (try dsimp only at hSw); go_simp; try with_reducible rfl)
            · simp only [Act.put, List.setIfInBounds_toArray, List.set_cons_zero, List.set_cons_succ]
              rfl
            refine heldTake (i := 16) (N := (some 58)) (v := ?_) (a' := ?_) #[true, true, true, true, true, true, true, true, true, true, true, true, true, true, false, true, true, false, false, false, false, false, false, false, false, false, false, false, false, false, false, false, false, false, false, false, false, false, false, false, false, false, false, false, false, false, false, false, false, false, false, false, false, false] rfl rfl (by kernel_rfl) (by kernel_rfl) (by kernel_rfl) rfl (fun _ _ _ h => h) (Or.inl ⟨by rfl, ?_⟩) (by assumption) ?_ ?_
            rotate_left
            rotate_left
            · (intro w1 hSw; (try dsimp only at hSw); go_simp; try with_reducible rfl)
            · simp only [Act.put, List.setIfInBounds_toArray, List.set_cons_zero, List.set_cons_succ]
              rfl
            refine heldTake (i := 17) (N := (some 59)) (v := ?_) (a' := ?_) #[true, true, true, true, true, true, true, true, true, true, true, true, true, true, false, true, true, true, false, false, false, false, false, false, false, false, false, false, false, false, false, false, false, false, false, false, false, false, false, false, false, false, false, false, false, false, false, false, false, false, false, false, false, false] rfl rfl (by kernel_rfl) (by kernel_rfl) (by kernel_rfl) rfl (fun _ _ _ h => h) (Or.inl ⟨by rfl, ?_⟩) (by assumption) ?_ ?_
            rotate_left
            rotate_left
            · (intro w1 hSw; (try dsimp only at hSw); go_simp; try with_reducible rfl)
            · simp only [Act.put, List.setIfInBounds_toArray, List.set_cons_zero, List.set_cons_succ]
              rfl
            refine heldOne (i := 14) #[true, true, true, true, true, true, true, true, true, true, true, true, true, true, true, true, true, true, false, false, false, false, false, false, false, false, false, false, false, false, false, false, false, false, false, false, false, false, false, false, false, false, false, false, false, false, false, false, false, false, false, false, false, false] rfl (by kernel_rfl) rfl (fun K hK => ?_)
            go_simp
            refine (HW.out _ (held_bw hHeld)).mono ?_
            rintro e wk ⟨rfl, rfl⟩
            go_wp2_with fail
            refine hK.out _ _ hHeld (fun hHeld => ?_)
            clear hK K
            try simp only [Act.put, List.setIfInBounds_toArray, List.set_cons_zero, List.set_cons_succ]
            refine heldTake (i := 18) (N := (some 60)) (v := ?_) (a' := ?_) #[true, true, true, true, true, true, true, true, true, true, true, true, true, true, true, true, true, true, true, false, false, false, false, false, false, false, false, false, false, false, false, false, false, false, false, false, false, false, false, false, false, false, false, false, false, false, false, false, false, false, false, false, false, false] rfl rfl (by kernel_rfl) (by kernel_rfl) (by kernel_rfl) rfl (fun _ _ _ h => h) (Or.inl ⟨by rfl, ?_⟩) (by assumption) ?_ ?_
            rotate_left
            rotate_left
            · (intro w1 hSw; (try dsimp only at hSw); go_simp; try with_reducible rfl)
            · simp only [Act.put, List.setIfInBounds_toArray, List.set_cons_zero, List.set_cons_succ]
              rfl
            refine heldTake (i := 19) (N := (some 61)) (v := ?_) (a' := ?_) #[true, true, true, true, true, true, true, true, true, true, true, true, true, true, true, true, true, true, true, true, false, false, false, false, false, false, false, false, false, false, false, false, false, false, false, false, false, false, false, false, false, false, false, false, false, false, false, false, false, false, false, false, false, false] rfl rfl (by kernel_rfl) (by kernel_rfl) (by kernel_rfl) rfl (fun _ _ _ h => h) (Or.inl ⟨by rfl, ?_⟩) (by assumption) ?_ ?_
            rotate_left
            rotate_left
            · (intro w1 hSw; (try dsimp only at hSw); go_simp; try with_reducible rfl)
            · simp only [Act.put, List.setIfInBounds_toArray, List.set_cons_zero, List.set_cons_succ]
              rfl
            refine heldTake (i := 20) (N := (some 62)) (v := ?_) (a' := ?_) #[true, true, true, true, true, true, true, true, true, true, true, true, true, true, true, true, true, true, true, true, true, false, false, false, false, false, false, false, false, false, false, false, false, false, false, false, false, false, false, false, false, false, false, false, false, false, false, false, false, false, false, false, false, false] rfl rfl (by kernel_rfl) (by kernel_rfl) (by kernel_rfl) rfl (fun _ _ _ h => h) (Or.inl ⟨by rfl, ?_⟩) (by assumption) ?_ ?_
            rotate_left
            rotate_left
            · (intro w1 hSw; (try dsimp only at hSw); go_simp; try with_reducible rfl)
            · simp only [Act.put, List.setIfInBounds_toArray, List.set_cons_zero, List.set_cons_succ]
              rfl
            refine heldTake (i := 21) (N := (some 63)) (v := ?_) (a' := ?_) #[true, true, true, true, true, true, true, true, true, true, true, true, true, true, true, true, true, true, true, true, true, true, false, false, false, false, false, false, false, false, false, false, false, false, false, false, false, false, false, false, false, false, false, false, false, false, false, false, false, false, false, false, false, false] rfl rfl (by kernel_rfl) (by kernel_rfl) (by kernel_rfl) rfl (fun _ _ _ h => h) (Or.inl ⟨by rfl, ?_⟩) (by assumption) ?_ ?_
            rotate_left
            rotate_left
            · (intro w1 hSw; (try dsimp only at hSw); go_simp; try with_reducible rfl)
            · simp only [Act.put, List.setIfInBounds_toArray, List.set_cons_zero, List.set_cons_succ]
              rfl
            refine heldTake (i := 22) (N := (some 64)) (v := ?_) (a' := ?_) #[true, true, true, true, true, true, true, true, true, true, true, true, true, true, true, true, true, true, true, true, true, true, true, false, false, false, false, false, false, false, false, false, false, false, false, false, false, false, false, false, false, false, false, false, false, false, false, false, false, false, false, false, false, false] rfl rfl (by kernel_rfl) (by kernel_rfl) (by kernel_rfl) rfl (fun _ _ _ h => h) (Or.inl ⟨by rfl, ?_⟩) (by assumption) ?_ ?_
            rotate_left
            rotate_left
            · (intro w1 hSw; (try dsimp only at hSw); go_simp; try with_reducible rfl)
            · simp only [Act.put, List.setIfInBounds_toArray, List.set_cons_zero, List.set_cons_succ]
              rfl
            refine heldTake (i := 24) (N := (some 66)) (v := ?_) (a' := ?_) #[true, true, true, true, true, true, true, true, true, true, true, true, true, true, true, true, true, true, true, true, true, true, true, false, true, false, false, false, false, false, false, false, false, false, false, false, false, false, false, false, false, false, false, false, false, false, false, false, false, false, false, false, false, false] rfl rfl (by kernel_rfl) (by kernel_rfl) (by kernel_rfl) rfl (fun _ _ _ h => h) (Or.inl ⟨by rfl, ?_⟩) (by assumption) ?_ ?_
            rotate_left
            rotate_left
            · (intro w1 hSw; (try dsimp only at hSw); go_simp; try with_reducible rfl)
            · simp only [Act.put, List.setIfInBounds_toArray, List.set_cons_zero, List.set_cons_succ]
              rfl
            refine heldTake (i := 25) (N := (some 67)) (v := ?_) (a' := ?_) #[true, true, true, true, true, true, true, true, true, true, true, true, true, true, true, true, true, true, true, true, true, true, true, false, true, true, false, false, false, false, false, false, false, false, false, false, false, false, false, false, false, false, false, false, false, false, false, false, false, false, false, false, false, false] rfl rfl (by kernel_rfl) (by kernel_rfl) (by kernel_rfl) rfl (fun _ _ _ h => h) (Or.inl ⟨by rfl, ?_⟩) (by assumption) ?_ ?_
            rotate_left
            rotate_left
            · (intro w1 hSw; (try dsimp only at hSw); go_simp; try with_reducible rfl)
            · simp only [Act.put, List.setIfInBounds_toArray, List.set_cons_zero, List.set_cons_succ]
              rfl
            refine heldTake (i := 26) (N := (some 68)) (v := ?_) (a' := ?_) #[true, true, true, true, true, true, true, true, true, true, true, true, true, true, true, true, true, true, true, true, true, true, true, false, true, true, true, false, false, false, false, false, false, false, false, false, false, false, false, false, false, false, false, false, false, false, false, false, false, false, false, false, false, false] rfl rfl (by kernel_rfl) (by kernel_rfl) (by kernel_rfl) rfl (fun _ _ _ h => h) (Or.inl ⟨by rfl, ?_⟩) (by assumption) ?_ ?_
            rotate_left
            rotate_left
            · (intro w1 hSw; (try dsimp only at hSw); go_simp; try with_reducible rfl)
            · simp only [Act.put, List.setIfInBounds_toArray, List.set_cons_zero, List.set_cons_succ]
              rfl
            refine heldOne (i := 23) #[true, true, true, true, true, true, true, true, true, true, true, true, true, true, true, true, true, true, true, true, true, true, true, true, true, true, true, false, false, false, false, false, false, false, false, false, false, false, false, false, false, false, false, false, false, false, false, false, false, false, false, false, false, false] rfl (by kernel_rfl) rfl (fun K hK => ?_)
            go_simp
            refine (HG.out _ (held_bw hHeld)).mono ?_
            rintro e wk ⟨rfl, rfl⟩
            go_wp2_with fail
            refine hK.out _ _ hHeld (fun hHeld => ?_)
            clear hK K
            try simp only [Act.put, List.setIfInBounds_toArray, List.set_cons_zero, List.set_cons_succ]
            refine heldTake (i := 27) (N := (some 69)) (v := ?_) (a' := ?_) #[true, true, true, true, true, true, true, true, true, true, true, true, true, true, true, true, true, true, true, true, true, true, true, true, true, true, true, true, false, false, false, false, false, false, false, false, false, false, false, false, false, false, false, false, false, false, false, false, false, false, false, false, false, false] rfl rfl (by kernel_rfl) (by kernel_rfl) (by kernel_rfl) rfl (fun _ _ _ h => h) (Or.inl ⟨by rfl, ?_⟩) (by assumption) ?_ ?_
            rotate_left
            rotate_left
            · (intro w1 hSw; (try dsimp only at hSw); go_simp; try with_reducible rfl)
            · simp only [Act.put, List.setIfInBounds_toArray, List.set_cons_zero, List.set_cons_succ]
              rfl
            refine heldTake (i := 28) (N := (some 70)) (v := ?_) (a' := ?_) #[true, true, true, true, true, true, true, true, true, true, true, true, true, true, true, true, true, true, true, true, true, true, true, true, true, true, true, true, true, false, false, false, false, false, false, false, false, false, false, false, false, false, false, false, false, false, false, false, false, false, false, false, false, false] rfl rfl (by kernel_rfl) (by kernel_rfl) (by kernel_rfl) rfl (fun _ _ _ h => h) (Or.inl ⟨by rfl, ?_⟩) (by assumption) ?_ ?_
            rotate_left
            rotate_left
            · (intro w1 hSw; (try dsimp only at hSw); go_simp; try with_reducible rfl)
            · simp only [Act.put, List.setIfInBounds_toArray, List.set_cons_zero, List.set_cons_succ]
              rfl
            refine heldTake (i := 29) (N := (some 71)) (v := ?_) (a' := ?_) #[true, true, true, true, true, true, true, true, true, true, true, true, true, true, true, true, true, true, true, true, true, true, true, true, true, true, true, true, true, true, false, false, false, false, false, false, false, false, false, false, false, false, false, false, false, false, false, false, false, false, false, false, false, false] rfl rfl (by kernel_rfl) (by kernel_rfl) (by kernel_rfl) rfl (fun _ _ _ h => h) (Or.inl ⟨by rfl, ?_⟩) (by assumption) ?_ ?_
            rotate_left
            rotate_left
            · (intro w1 hSw; (try dsimp only at hSw); go_simp; try with_reducible rfl)
            · simp only [Act.put, List.setIfInBounds_toArray, List.set_cons_zero, List.set_cons_succ]
              rfl
            refine heldTake (i := 30) (N := (some 72)) (v := ?_) (a' := ?_) #[true, true, true, true, true, true, true, true, true, true, true, true, true, true, true, true, true, true, true, true, true, true, true, true, true, true, true, true, true, true, true, false, false, false, false, false, false, false, false, false, false, false, false, false, false, false, false, false, false, false, false, false, false, false] rfl rfl (by kernel_rfl) (by kernel_rfl) (by kernel_rfl) rfl (fun _ _ _ h => h) (Or.inl ⟨by rfl, ?_⟩) (by assumption) ?_ ?_
            rotate_left
            rotate_left
            · (intro w1 hSw; (try dsimp only at hSw); go_simp; try with_reducible rfl)
            · simp only [Act.put, List.setIfInBounds_toArray, List.set_cons_zero, List.set_cons_succ]
              rfl
            refine heldTake (i := 31) (N := (some 73)) (v := ?_) (a' := ?_) #[true, true, true, true, true, true, true, true, true, true, true, true, true, true, true, true, true, true, true, true, true, true, true, true, true, true, true, true, true, true, true, true, false, false, false, false, false, false, false, false, false, false, false, false, false, false, false, false, false, false, false, false, false, false] rfl rfl (by kernel_rfl) (by kernel_rfl) (by kernel_rfl) rfl (fun _ _ _ h => h) (Or.inl ⟨by rfl, ?_⟩) (by assumption) ?_ ?_
            rotate_left
            rotate_left
            · (intro w1 hSw; (try dsimp only at hSw); go_simp; try with_reducible rfl)
            · simp only [Act.put, List.setIfInBounds_toArray, List.set_cons_zero, List.set_cons_succ]
              rfl
            refine heldTake (i := 32) (N := (some 74)) (v := ?_) (a' := ?_) #[true, true, true, true, true, true, true, true, true, true, true, true, true, true, true, true, true, true, true, true, true, true, true, true, true, true, true, true, true, true, true, true, true, false, false, false, false, false, false, false, false, false, false, false, false, false, false, false, false, false, false, false, false, false] rfl rfl (by kernel_rfl) (by kernel_rfl) (by kernel_rfl) rfl (fun _ _ _ h => h) (Or.inl ⟨by rfl, ?_⟩) (by assumption) ?_ ?_
            rotate_left
            rotate_left
            · (intro w1 hSw; (try dsimp only at hSw); go_simp; try with_reducible rfl)
            · simp only [Act.put, List.setIfInBounds_toArray, List.set_cons_zero, List.set_cons_succ]
              rfl
            refine heldTake (i := 33) (N := (some 75)) (v := ?_) (a' := ?_) #[true, true, true, true, true, true, true, true, true, true, true, true, true, true, true, true, true, true, true, true, true, true, true, true, true, true, true, true, true, true, true, true, true, true, false, false, false, false, false, false, false, false, false, false, false, false, false, false, false, false, false, false, false, false] rfl rfl (by kernel_rfl) (by kernel_rfl) (by kernel_rfl) rfl (fun _ _ _ h => h) (Or.inl ⟨by rfl, ?_⟩) (by assumption) ?_ ?_
            rotate_left
            rotate_left
            · (intro w1 hSw; (try dsimp only at hSw); go_simp; try with_reducible rfl)
            · simp only [Act.put, List.setIfInBounds_toArray, List.set_cons_zero, List.set_cons_succ]
              rfl
            refine heldTake (i := 34) (N := (some 76)) (v := ?_) (a' := ?_) #[true, true, true, true, true, true, true, true, true, true, true, true, true, true, true, true, true, true, true, true, true, true, true, true, true, true, true, true, true, true, true, true, true, true, true, false, false, false, false, false, false, false, false, false, false, false, false, false, false, false, false, false, false, false] rfl rfl (by kernel_rfl) (by kernel_rfl) (by kernel_rfl) rfl (fun _ _ _ h => h) (Or.inl ⟨by rfl, ?_⟩) (by assumption) ?_ ?_
            rotate_left
            rotate_left
            · (intro w1 hSw; (try dsimp only at hSw); go_simp; try with_reducible rfl)
            · simp only [Act.put, List.setIfInBounds_toArray, List.set_cons_zero, List.set_cons_succ]
              rfl
            refine heldTake (i := 35) (N := (some 77)) (v := ?_) (a' := ?_) #[true, true, true, true, true, true, true, true, true, true, true, true, true, true, true, true, true, true, true, true, true, true, true, true, true, true, true, true, true, true, true, true, true, true, true, true, false, false, false, false, false, false, false, false, false, false, false, false, false, false, false, false, false, false] rfl rfl (by kernel_rfl) (by kernel_rfl) (by kernel_rfl) rfl (fun _ _ _ h => h) (Or.inl ⟨by rfl, ?_⟩) (by assumption) ?_ ?_
            rotate_left
            rotate_left
            · (intro w1 hSw; (try dsimp only at hSw); go_simp; try with_reducible rfl)
            · simp only [Act.put, List.setIfInBounds_toArray, List.set_cons_zero, List.set_cons_succ]
              rfl
            refine heldTake (i := 36) (N := (some 78)) (v := ?_) (a' := ?_) #[true, true, true, true, true, true, true, true, true, true, true, true, true, true, true, true, true, true, true, true, true, true, true, true, true, true, true, true, true, true, true, true, true, true, true, true, true, false, false, false, false, false, false, false, false, false, false, false, false, false, false, false, false, false] rfl rfl (by kernel_rfl) (by kernel_rfl) (by kernel_rfl) rfl (fun _ _ _ h => h) (Or.inl ⟨by rfl, ?_⟩) (by assumption) ?_ ?_
            rotate_left
            rotate_left
            · (intro w1 hSw; (try dsimp only at hSw); go_simp; try with_reducible rfl)
            · simp only [Act.put, List.setIfInBounds_toArray, List.set_cons_zero, List.set_cons_succ]
              rfl
            refine heldTake (i := 37) (N := (some 79)) (v := ?_) (a' := ?_) #[true, true, true, true, true, true, true, true, true, true, true, true, true, true, true, true, true, true, true, true, true, true, true, true, true, true, true, true, true, true, true, true, true, true, true, true, true, true, false, false, false, false, false, false, false, false, false, false, false, false, false, false, false, false] rfl rfl (by kernel_rfl) (by kernel_rfl) (by kernel_rfl) rfl (fun _ _ _ h => h) (Or.inl ⟨by rfl, ?_⟩) (by assumption) ?_ ?_
            rotate_left
            rotate_left
            · (intro w1 hSw; (try dsimp only at hSw); go_simp; try with_reducible rfl)
            · simp only [Act.put, List.setIfInBounds_toArray, List.set_cons_zero, List.set_cons_succ]
              rfl
            refine heldTake (i := 38) (N := (some 80)) (v := ?_) (a' := ?_) #[true, true, true, true, true, true, true, true, true, true, true, true, true, true, true, true, true, true, true, true, true, true, true, true, true, true, true, true, true, true, true, true, true, true, true, true, true, true, true, false, false, false, false, false, false, false, false, false, false, false, false, false, false, false] rfl rfl (by kernel_rfl) (by kernel_rfl) (by kernel_rfl) rfl (fun _ _ _ h => h) (Or.inl ⟨by rfl, ?_⟩) (by assumption) ?_ ?_
            rotate_left
            rotate_left
            · (intro w1 hSw; (try dsimp only at hSw); go_simp; try with_reducible rfl)
            · simp only [Act.put, List.setIfInBounds_toArray, List.set_cons_zero, List.set_cons_succ]
              rfl
            refine heldTake (i := 39) (N := (some 81)) (v := ?_) (a' := ?_) #[true, true, true, true, true, true, true, true, true, true, true, true, true, true, true, true, true, true, true, true, true, true, true, true, true, true, true, true, true, true, true, true, true, true, true, true, true, true, true, true, false, false, false, false, false, false, false, false, false, false, false, false, false, false] rfl rfl (by kernel_rfl) (by kernel_rfl) (by kernel_rfl) rfl (fun _ _ _ h => h) (Or.inl ⟨by rfl, ?_⟩) (by assumption) ?_ ?_
            rotate_left
            rotate_left
            · (intro w1 hSw; (try dsimp only at hSw); go_simp; try with_reducible rfl)
            · simp only [Act.put, List.setIfInBounds_toArray, List.set_cons_zero, List.set_cons_succ]
              rfl
            refine heldTake (i := 40) (N := (some 82)) (v := ?_) (a' := ?_) #[true, true, true, true, true, true, true, true, true, true, true, true, true, true, true, true, true, true, true, true, true, true, true, true, true, true, true, true, true, true, true, true, true, true, true, true, true, true, true, true, true, false, false, false, false, false, false, false, false, false, false, false, false, false] rfl rfl (by kernel_rfl) (by kernel_rfl) (by kernel_rfl) rfl (fun _ _ _ h => h) (Or.inl ⟨by rfl, ?_⟩) (by assumption) ?_ ?_
            rotate_left
            rotate_left
            · (intro w1 hSw; (try dsimp only at hSw); go_simp; try with_reducible rfl)
            · simp only [Act.put, List.setIfInBounds_toArray, List.set_cons_zero, List.set_cons_succ]
              rfl
            refine heldTake (i := 41) (N := (some 83)) (v := ?_) (a' := ?_) #[true, true, true, true, true, true, true, true, true, true, true, true, true, true, true, true, true, true, true, true, true, true, true, true, true, true, true, true, true, true, true, true, true, true, true, true, true, true, true, true, true, true, false, false, false, false, false, false, false, false, false, false, false, false] rfl rfl (by kernel_rfl) (by kernel_rfl) (by kernel_rfl) rfl (fun _ _ _ h => h) (Or.inl ⟨by rfl, ?_⟩) (by assumption) ?_ ?_
            rotate_left
            rotate_left
            · (intro w1 hSw; (try dsimp only at hSw); go_simp; try with_reducible rfl)
            · simp only [Act.put, List.setIfInBounds_toArray, List.set_cons_zero, List.set_cons_succ]
              rfl
            refine heldTake (i := 42) (N := (some 84)) (v := ?_) (a' := ?_) #[true, true, true, true, true, true, true, true, true, true, true, true, true, true, true, true, true, true, true, true, true, true, true, true, true, true, true, true, true, true, true, true, true, true, true, true, true, true, true, true, true, true, true, false, false, false, false, false, false, false, false, false, false, false] rfl rfl (by kernel_rfl) (by kernel_rfl) (by kernel_rfl) rfl (fun _ _ _ h => h) (Or.inl ⟨by rfl, ?_⟩) (by assumption) ?_ ?_
            rotate_left
            rotate_left
            · (intro w1 hSw; (try dsimp only at hSw); go_simp; try with_reducible rfl)
            · simp only [Act.put, List.setIfInBounds_toArray, List.set_cons_zero, List.set_cons_succ]
              rfl
            refine heldTake (i := 43) (N := (some 85)) (v := ?_) (a' := ?_) #[true, true, true, true, true, true, true, true, true, true, true, true, true, true, true, true, true, true, true, true, true, true, true, true, true, true, true, true, true, true, true, true, true, true, true, true, true, true, true, true, true, true, true, true, false, false, false, false, false, false, false, false, false, false] rfl rfl (by kernel_rfl) (by kernel_rfl) (by kernel_rfl) rfl (fun _ _ _ h => h) (Or.inl ⟨by rfl, ?_⟩) (by assumption) ?_ ?_
            rotate_left
            rotate_left
            · (intro w1 hSw; (try dsimp only at hSw); go_simp; try with_reducible rfl)
            · simp only [Act.put, List.setIfInBounds_toArray, List.set_cons_zero, List.set_cons_succ]
              rfl
            refine heldTake (i := 44) (N := (some 86)) (v := undef) (a' := ?_) #[true, true, true, true, true, true, true, true, true, true, true, true, true, true, true, true, true, true, true, true, true, true, true, true, true, true, true, true, true, true, true, true, true, true, true, true, true, true, true, true, true, true, true, true, true, false, false, false, false, false, false, false, false, false] rfl rfl (by kernel_rfl) (by kernel_rfl) (by kernel_rfl) rfl (fun _ _ _ h => h) (Or.inr ⟨by rfl, rfl⟩) (by assumption) ?_ ?_
            rotate_left
            · simp only [Act.put, List.setIfInBounds_toArray, List.set_cons_zero, List.set_cons_succ]
              rfl
            refine heldTake (i := 45) (N := (some 87)) (v := undef) (a' := ?_) #[true, true, true, true, true, true, true, true, true, true, true, true, true, true, true, true, true, true, true, true, true, true, true, true, true, true, true, true, true, true, true, true, true, true, true, true, true, true, true, true, true, true, true, true, true, true, false, false, false, false, false, false, false, false] rfl rfl (by kernel_rfl) (by kernel_rfl) (by kernel_rfl) rfl (fun _ _ _ h => h) (Or.inr ⟨by rfl, rfl⟩) (by assumption) ?_ ?_
            rotate_left
            · simp only [Act.put, List.setIfInBounds_toArray, List.set_cons_zero, List.set_cons_succ]
              rfl
            refine heldTake (i := 46) (N := (some 88)) (v := undef) (a' := ?_) #[true, true, true, true, true, true, true, true, true, true, true, true, true, true, true, true, true, true, true, true, true, true, true, true, true, true, true, true, true, true, true, true, true, true, true, true, true, true, true, true, true, true, true, true, true, true, true, false, false, false, false, false, false, false] rfl rfl (by kernel_rfl) (by kernel_rfl) (by kernel_rfl) rfl (fun _ _ _ h => h) (Or.inr ⟨by rfl, rfl⟩) (by assumption) ?_ ?_
            rotate_left
            · simp only [Act.put, List.setIfInBounds_toArray, List.set_cons_zero, List.set_cons_succ]
              rfl
            refine heldTake (i := 47) (N := (some 89)) (v := ?_) (a' := ?_) #[true, true, true, true, true, true, true, true, true, true, true, true, true, true, true, true, true, true, true, true, true, true, true, true, true, true, true, true, true, true, true, true, true, true, true, true, true, true, true, true, true, true, true, true, true, true, true, true, false, false, false, false, false, false] rfl rfl (by kernel_rfl) (by kernel_rfl) (by kernel_rfl) rfl (fun _ _ _ h => h) (Or.inl ⟨by rfl, ?_⟩) (by assumption) ?_ ?_
            rotate_left
            rotate_left
            · (intro w1 hSw; (try dsimp only at hSw); go_simp; try with_reducible rfl)
            · simp only [Act.put, List.setIfInBounds_toArray, List.set_cons_zero, List.set_cons_succ]
              rfl
            refine heldTake (i := 48) (N := (some 90)) (v := ?_) (a' := ?_) #[true, true, true, true, true, true, true, true, true, true, true, true, true, true, true, true, true, true, true, true, true, true, true, true, true, true, true, true, true, true, true, true, true, true, true, true, true, true, true, true, true, true, true, true, true, true, true, true, true, false, false, false, false, false] rfl rfl (by kernel_rfl) (by kernel_rfl) (by kernel_rfl) rfl (fun _ _ _ h => h) (Or.inl ⟨by rfl, ?_⟩) (by assumption) ?_ ?_
            rotate_left
            rotate_left
            · (intro w1 hSw; (try dsimp only at hSw); go_simp; try with_reducible rfl)
            · simp only [Act.put, List.setIfInBounds_toArray, List.set_cons_zero, List.set_cons_succ]
              rfl
            refine heldTake (i := 49) (N := (some 91)) (v := ?_) (a' := ?_) #[true, true, true, true, true, true, true, true, true, true, true, true, true, true, true, true, true, true, true, true, true, true, true, true, true, true, true, true, true, true, true, true, true, true, true, true, true, true, true, true, true, true, true, true, true, true, true, true, true, true, false, false, false, false] rfl rfl (by kernel_rfl) (by kernel_rfl) (by kernel_rfl) rfl (fun _ _ _ h => h) (Or.inl ⟨by rfl, ?_⟩) (by assumption) ?_ ?_
            rotate_left
            rotate_left
            · (intro w1 hSw; (try dsimp only at hSw); go_simp; try with_reducible rfl)
            · simp only [Act.put, List.setIfInBounds_toArray, List.set_cons_zero, List.set_cons_succ]
              rfl
            refine heldTake (i := 50) (N := (some 92)) (v := ?_) (a' := ?_) #[true, true, true, true, true, true, true, true, true, true, true, true, true, true, true, true, true, true, true, true, true, true, true, true, true, true, true, true, true, true, true, true, true, true, true, true, true, true, true, true, true, true, true, true, true, true, true, true, true, true, true, false, false, false] rfl rfl (by kernel_rfl) (by kernel_rfl) (by kernel_rfl) rfl (fun _ _ _ h => h) (Or.inl ⟨by rfl, ?_⟩) (by assumption) ?_ ?_
            rotate_left
            rotate_left
            · (intro w1 hSw; (try dsimp only at hSw); go_simp; try with_reducible rfl)
            · simp only [Act.put, List.setIfInBounds_toArray, List.set_cons_zero, List.set_cons_succ]
              rfl
            refine heldTake (i := 51) (N := (some 93)) (v := ?_) (a' := ?_) #[true, true, true, true, true, true, true, true, true, true, true, true, true, true, true, true, true, true, true, true, true, true, true, true, true, true, true, true, true, true, true, true, true, true, true, true, true, true, true, true, true, true, true, true, true, true, true, true, true, true, true, true, false, false] rfl rfl (by kernel_rfl) (by kernel_rfl) (by kernel_rfl) rfl (fun _ _ _ h => h) (Or.inl ⟨by rfl, ?_⟩) (by assumption) ?_ ?_
            rotate_left
            rotate_left
            · (intro w1 hSw; (try dsimp only at hSw); go_simp; try with_reducible rfl)
            · simp only [Act.put, List.setIfInBounds_toArray, List.set_cons_zero, List.set_cons_succ]
              rfl
            refine heldTake (i := 52) (N := (some 94)) (v := ?_) (a' := ?_) #[true, true, true, true, true, true, true, true, true, true, true, true, true, true, true, true, true, true, true, true, true, true, true, true, true, true, true, true, true, true, true, true, true, true, true, true, true, true, true, true, true, true, true, true, true, true, true, true, true, true, true, true, true, false] rfl rfl (by kernel_rfl) (by kernel_rfl) (by kernel_rfl) rfl (fun _ _ _ h => h) (Or.inl ⟨by rfl, ?_⟩) (by assumption) ?_ ?_
            rotate_left
            rotate_left
            · (intro w1 hSw; (try dsimp only at hSw); go_simp; try with_reducible rfl)
            · simp only [Act.put, List.setIfInBounds_toArray, List.set_cons_zero, List.set_cons_succ]
              rfl
            refine heldTake (i := 53) (N := (some 95)) (v := ?_) (a' := ?_) #[true, true, true, true, true, true, true, true, true, true, true, true, true, true, true, true, true, true, true, true, true, true, true, true, true, true, true, true, true, true, true, true, true, true, true, true, true, true, true, true, true, true, true, true, true, true, true, true, true, true, true, true, true, true] rfl rfl (by kernel_rfl) (by kernel_rfl) (by kernel_rfl) rfl (fun _ _ _ h => h) (Or.inl ⟨by rfl, ?_⟩) (by assumption) ?_ ?_
            rotate_left
            rotate_left
            · (intro w1 hSw; (try dsimp only at hSw); go_simp; try with_reducible rfl)
            · simp only [Act.put, List.setIfInBounds_toArray, List.set_cons_zero, List.set_cons_succ]
              rfl
            refine wpAnyH_done (by kernel_rfl) ?_ _
            all_goals
              go_wp2_with fail
              go_roundg g
              case measure => omega
              case rel => exact ⟨k + 1, by go_num, by omega, by omega, held_bw (by assumption), held_own (by assumption)⟩
          · have h0 := hnum (by decide)
            subst h0
            have HN := Lib.hid hcn
            have HW := Lib.hid hcw
            have HG := Lib.hid hcs
            clear hcn hcw hcs hnum
            go_region_held3 (fun w' => w'.cell? ⟨bx, 0, none⟩ = some (.int .u8 3) ∧ w'.cell? ⟨bx, 1, none⟩ = some (.string tx) ∧ w'.cell? ⟨bx, 2, none⟩ = some (.int .i64 0) ∧ Hid (Own5 w w' (.slice (some ⟨b1, o1, none⟩) toks.length c1) toks))
              (first | assumption | exact ⟨cell_drew p0, cell_drew p1, cell_drew p2, Lib.hid ⟨hbn.drew, hownn.drew⟩⟩ | exact held_next (by assumption) (by assumption))
              (first | (go_at_call 18; refine (HN.out _ ?_).mono ?_; (exact held_bw (by assumption)); rintro e wk ⟨rfl, hbk⟩) | (go_at_call 14; refine (HW.out _ ?_).mono ?_; (exact held_bw (by assumption)); rintro e wk ⟨rfl, rfl⟩) | (go_at_call 16; refine (HG.out _ ?_).mono ?_; (exact held_bw (by assumption)); rintro e wk ⟨rfl, rfl⟩))
            all_goals
              go_wp2_with fail
              go_roundg g
              case measure => omega
              case rel => exact ⟨k + 1, by go_num, by omega, by omega, held_bw (by assumption), held_own (by assumption)⟩
          · have h0 := hnum (by decide)
            subst h0
            have HN := Lib.hid hcn
            have HW := Lib.hid hcw
            have HG := Lib.hid hcs
            clear hcn hcw hcs hnum
            go_region_held3 (fun w' => w'.cell? ⟨bx, 0, none⟩ = some (.int .u8 4) ∧ w'.cell? ⟨bx, 1, none⟩ = some (.string tx) ∧ w'.cell? ⟨bx, 2, none⟩ = some (.int .i64 0) ∧ Hid (Own5 w w' (.slice (some ⟨b1, o1, none⟩) toks.length c1) toks))
              (first | assumption | exact ⟨cell_drew p0, cell_drew p1, cell_drew p2, Lib.hid ⟨hbn.drew, hownn.drew⟩⟩ | exact held_next (by assumption) (by assumption))
              (first | (go_at_call 18; refine (HN.out _ ?_).mono ?_; (exact held_bw (by assumption)); rintro e wk ⟨rfl, hbk⟩) | (go_at_call 14; refine (HW.out _ ?_).mono ?_; (exact held_bw (by assumption)); rintro e wk ⟨rfl, rfl⟩) | (go_at_call 16; refine (HG.out _ ?_).mono ?_; (exact held_bw (by assumption)); rintro e wk ⟨rfl, rfl⟩))
            all_goals
              go_wp2_with fail
              go_roundg g
              case measure => omega
              case rel => exact ⟨k + 1, by go_num, by omega, by omega, held_bw (by assumption), held_own (by assumption)⟩
        · -- behind the loop
          have hkn' : k = toks.length := by omega
          have hcn : ∀ w', Below w.heap.size w w' → Calls Tryd.prog 18 #[.string s] w' fun e w'' => e = .returned (.bool (isName s)) ∧ Below w'.heap.size w' w'' := fun w' hb => name_any s w' (HT.out.below hb) hs
          have hcw : ∀ w', Below w.heap.size w w' → Calls Tryd.prog 14 #[.string s] w' fun e w'' => e = .returned (.bool (isWord s)) ∧ w'' = w' := fun w' hb => word_any s w' (HT.out.below hb)
          have hcs : ∀ w', Below w.heap.size w w' → Calls Tryd.prog 16 #[.string s] w' fun e w'' => e = .returned (.bool (isSign s)) ∧ w'' = w' := fun w' hb => sign_any s w' (HT.out.below hb)
          have hbi := Lib.hid hbw
          clear hbw hown
          cases hn : isName s
          · cases hw : isWord s
            · cases hg : isSign s
              · rw [hn] at hcn
                rw [hw] at hcw
                rw [hg] at hcs
                have HN := Lib.hid hcn
                have HW := Lib.hid hcw
                have HG := Lib.hid hcs
                clear hcn hcw hcs hn hw hg
                go_wp2_with fail
                refine (HN.out _ hbi.out).mono ?_
                rintro e w3 ⟨rfl, hb3⟩
                have hb3 := Lib.hid (hbi.out.trans (hb3.mono hbi.out.size))
                go_wp2_with fail
                refine (HW.out _ hb3.out).mono ?_
                rintro e w3 ⟨rfl, rfl⟩
                go_wp2_with fail
                refine (HG.out _ hb3.out).mono ?_
                rintro e w3 ⟨rfl, rfl⟩
                go_wp2_with fail
                go_ret
                exact ⟨rfl, hb3.out⟩
              · obtain ⟨t1, h1, h2, h3, h4⟩ := HONE.out (.inr (.inr hg))
                rw [hn] at hcn
                rw [hw] at hcw
                rw [hg] at hcs
                have HN := Lib.hid hcn
                have HW := Lib.hid hcw
                have HG := Lib.hid hcs
                have H1 := Lib.hid h1
                have H2 := Lib.hid h2
                have H3 := Lib.hid h3
                have H4 := Lib.hid h4
                clear hcn hcw hcs hn hw hg h1 h2 h3 h4
                go_wp2_with fail
                refine (HN.out _ hbi.out).mono ?_
                rintro e w3 ⟨rfl, hb3⟩
                have hb3 := Lib.hid (hbi.out.trans (hb3.mono hbi.out.size))
                go_wp2_with fail
                refine (HW.out _ hb3.out).mono ?_
                rintro e w3 ⟨rfl, rfl⟩
                go_wp2_with fail
                refine (HG.out _ hb3.out).mono ?_
                rintro e w3 ⟨rfl, rfl⟩
                obtain ⟨c9, w4, hcv, hR4, hb4⟩ := text_bytes w3 s
                have hb4 := hb3.out.trans (hb4.mono hb3.out.size)
                have hsc := scan_any (some ⟨w3.heap.size, 0, none⟩) c9 s.data.toList w4 hR4 (by simpa using hs) (HT.out.below hb4) (HST.out.below hb4)
                have hlen : s.data.toList.length = s.size := by simp
                rw [hlen] at hsc
                have HSC := Lib.hid hsc
                have HB4 := Lib.hid hb4
                clear hsc hlen hb4 hR4
                go_wp2_with fail
                refine HSC.out.mono ?_
                rintro e w5 ⟨⟨v, rfl, hown⟩, hb⟩
                rw [H1.out] at hown ⊢
                have HB5 := Lib.hid (HB4.out.trans (hb.mono HB4.out.size))
                clear hb hcv HSC
                rcases own_form hown with ⟨_, h0⟩ | ⟨g, cap, rfl, hc, _⟩
                · exact absurd h0 (by simp)
                · have hc : 1 ≤ cap := hc
                  have d1 : w5.cell? ⟨g, 1, none⟩ = some (.string t1.text) := hown.cellAt 1 (by simp)
                  have d3 : w5.cell? ⟨g, 3, none⟩ = some (.int .i64 t1.line) := hown.cellAt 3 (by simp)
                  have d4 : w5.cell? ⟨g, 4, none⟩ = some (.int .i64 t1.col) := hown.cellAt 4 (by simp)
                  rw [H2.out] at d1
                  rw [H3.out] at d3
                  rw [H4.out] at d4
                  have e1 : (s.toList == s.toList) = true := by simp
                  clear hown
                  go_wp2_with fail
                  go_ret
                  exact ⟨rfl, HB5.out⟩
            · obtain ⟨t1, h1, h2, h3, h4⟩ := HONE.out (.inr (.inl hw))
              rw [hn] at hcn
              rw [hw] at hcw
              have HN := Lib.hid hcn
              have HW := Lib.hid hcw
              have HG := Lib.hid hcs
              have H1 := Lib.hid h1
              have H2 := Lib.hid h2
              have H3 := Lib.hid h3
              have H4 := Lib.hid h4
              clear hcn hcw hcs hn hw h1 h2 h3 h4
              go_wp2_with fail
              refine (HN.out _ hbi.out).mono ?_
              rintro e w3 ⟨rfl, hb3⟩
              have hb3 := Lib.hid (hbi.out.trans (hb3.mono hbi.out.size))
              go_wp2_with fail
              refine (HW.out _ hb3.out).mono ?_
              rintro e w3 ⟨rfl, rfl⟩
              obtain ⟨c9, w4, hcv, hR4, hb4⟩ := text_bytes w3 s
              have hb4 := hb3.out.trans (hb4.mono hb3.out.size)
              have hsc := scan_any (some ⟨w3.heap.size, 0, none⟩) c9 s.data.toList w4 hR4 (by simpa using hs) (HT.out.below hb4) (HST.out.below hb4)
              have hlen : s.data.toList.length = s.size := by simp
              rw [hlen] at hsc
              have HSC := Lib.hid hsc
              have HB4 := Lib.hid hb4
              clear hsc hlen hb4 hR4
              go_wp2_with fail
              refine HSC.out.mono ?_
              rintro e w5 ⟨⟨v, rfl, hown⟩, hb⟩
              rw [H1.out] at hown ⊢
              have HB5 := Lib.hid (HB4.out.trans (hb.mono HB4.out.size))
              clear hb hcv HSC
              rcases own_form hown with ⟨_, h0⟩ | ⟨g, cap, rfl, hc, _⟩
              · exact absurd h0 (by simp)
              · have hc : 1 ≤ cap := hc
                have d1 : w5.cell? ⟨g, 1, none⟩ = some (.string t1.text) := hown.cellAt 1 (by simp)
                have d3 : w5.cell? ⟨g, 3, none⟩ = some (.int .i64 t1.line) := hown.cellAt 3 (by simp)
                have d4 : w5.cell? ⟨g, 4, none⟩ = some (.int .i64 t1.col) := hown.cellAt 4 (by simp)
                rw [H2.out] at d1
                rw [H3.out] at d3
                rw [H4.out] at d4
                have e1 : (s.toList == s.toList) = true := by simp
                clear hown
                go_wp2_with fail
                go_ret
                exact ⟨rfl, HB5.out⟩
          · obtain ⟨t1, h1, h2, h3, h4⟩ := HONE.out (.inl hn)
            rw [hn] at hcn
            have HN := Lib.hid hcn
            have HW := Lib.hid hcw
            have HG := Lib.hid hcs
            have H1 := Lib.hid h1
            have H2 := Lib.hid h2
            have H3 := Lib.hid h3
            have H4 := Lib.hid h4
            clear hcn hcw hcs hn h1 h2 h3 h4
            go_wp2_with fail
            refine (HN.out _ hbi.out).mono ?_
            rintro e w3 ⟨rfl, hb3⟩
            have hb3 := Lib.hid (hbi.out.trans (hb3.mono hbi.out.size))
            obtain ⟨c9, w4, hcv, hR4, hb4⟩ := text_bytes w3 s
            have hb4 := hb3.out.trans (hb4.mono hb3.out.size)
            have hsc := scan_any (some ⟨w3.heap.size, 0, none⟩) c9 s.data.toList w4 hR4 (by simpa using hs) (HT.out.below hb4) (HST.out.below hb4)
            have hlen : s.data.toList.length = s.size := by simp
            rw [hlen] at hsc
            have HSC := Lib.hid hsc
            have HB4 := Lib.hid hb4
            clear hsc hlen hb4 hR4
            go_wp2_with fail
            refine HSC.out.mono ?_
            rintro e w5 ⟨⟨v, rfl, hown⟩, hb⟩
            rw [H1.out] at hown ⊢
            have HB5 := Lib.hid (HB4.out.trans (hb.mono HB4.out.size))
            clear hb hcv HSC
            rcases own_form hown with ⟨_, h0⟩ | ⟨g, cap, rfl, hc, _⟩
            · exact absurd h0 (by simp)
            · have hc : 1 ≤ cap := hc
              have d1 : w5.cell? ⟨g, 1, none⟩ = some (.string t1.text) := hown.cellAt 1 (by simp)
              have d3 : w5.cell? ⟨g, 3, none⟩ = some (.int .i64 t1.line) := hown.cellAt 3 (by simp)
              have d4 : w5.cell? ⟨g, 4, none⟩ = some (.int .i64 t1.col) := hown.cellAt 4 (by simp)
              rw [H2.out] at d1
              rw [H3.out] at d3
              rw [H4.out] at d4
              have e1 : (s.toList == s.toList) = true := by simp
              clear hown
              go_wp2_with fail
              go_ret
              exact ⟨rfl, HB5.out⟩

set_option maxRecDepth 100000 in
theorem scanKinds_calls {H : Type} (enc : TypeId × Value → H) (W : World) (base : Nat) (args : Array Value) (ds : List (DataW H)) (p : List MemPlace)
    (hval : ∀ (j : Nat) t v, Tryd.f8.params[j]? = some t → args[j]? = some v → Value.okWide Tryd.prog W .any base t v)
    (hA : DataW.TrodAll enc Tryd.prog W 0 (fun _ => true) true Tryd.f8.params.toList args.toList ds p)
    (hsz : (DataW.weightsEach Tryd.prog (Tryd.f8.params.toList ++ Rows.scanKindsSpec.plain.varTypes Tryd.prog) (ds ++ [])).all (· ≤ reachBytes) = true)
    (hL : laidMetH Tryd.prog Rows.scanKindsRow.laid W) :
    Calls Tryd.prog 8 args W fun e W' => e = .returned (.bool true) ∧ Below W.heap.size W W' ∧ (Rows.scanKindsSpec.fn H (ds ++ [])) = { results := [.lit (.bool true)], args := ds } := by
  have hT : ScanTabs W := scanTabs_of (by kernel_rfl) hL (by repeat (first | exact List.mem_cons_self | apply List.mem_cons_of_mem)) (by repeat (first | exact List.mem_cons_self | apply List.mem_cons_of_mem))
  have hS : StrTabs W := strTabs_of (by kernel_rfl) hL (by repeat (first | exact List.mem_cons_self | apply List.mem_cons_of_mem)) (by repeat (first | exact List.mem_cons_self | apply List.mem_cons_of_mem))
  rw [Tryd.params8] at hA hval
  obtain ⟨v0, v1, d0, d1, p0, p1, rfl, rfl, rfl, h0, h1⟩ := trodAll_two hA
  obtain ⟨a0, len, cap, rfl⟩ := okWide_slice Tryd.underlying27 (hval 0 27 v0 rfl rfl)
  obtain ⟨s, rfl, rfl, rfl, hs⟩ := open_string Tryd.underlying9 (hval 1 9 v1 rfl rfl) h1
  obtain ⟨fuel, hf⟩ := h0
  obtain ⟨l, rfl, hR, hl, hc⟩ := open_bytes hf
  exact (scanKinds_walk a0 cap l s W hR hl hs hT hS).mono fun e W' h => ⟨h.1, h.2, rfl⟩
end Go.Proofs.YtjfoinikdifgmaaDoor
