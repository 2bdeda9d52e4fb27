/- The walk of dispatcherref05.Heights. -/
import Derived.Test.YtaanhkepimjelaaDoorCodeB
import Derived.Test.YtaanhkepimjelaaDoorCodeS
import Derived.Test.YtaanhkepimjelaaDoorCode9
namespace Go.Proofs.YtaanhkepimjelaaDoor
open Go.RowKit Go.Sort
set_option linter.unusedVariables false
set_option linter.unusedSimpArgs false

/-- A row of numbers that the call owns. -/
def OwnI (w : World) (B b n c : Nat) (l : List Int) : Prop := w.ownsRow B 3 1 (.slice (some ⟨b, 0, none⟩) n c) n (l.map (Value.int .i64))
section
variable {w w' : World} {B b n c : Nat} {l : List Int}
theorem OwnI.len (h : OwnI w B b n c l) : l.length = n := by have := h.1; simpa using this
theorem OwnI.get (h : OwnI w B b n c l) (j : Nat) (hj : j < l.length) : w.cell? ⟨b, j, none⟩ = some (.int .i64 l[j]) := by
  have hl := h.len
  have h2 := World.ownsRow.cellAt h j (by omega)
  rw [h2]
  simp [List.getElem?_eq_getElem hj]
theorem OwnI.fz (h : OwnI w B b n c l) (j : Nat) : w.frozen? ⟨b, j, none⟩ = false := World.ownsRow.frozenAt h j
theorem OwnI.bounds (h : OwnI w B b n c l) : B ≤ b ∧ b < w.heap.size := by
  obtain ⟨A, c', e, _, _, h1, _⟩ := own_shape h
  cases e
  obtain ⟨g, e, h2, h3⟩ := h1 _ rfl
  cases e
  exact ⟨h2, h3⟩
theorem OwnI.set (h : OwnI w B b n c l) (j : Nat) (x : Int) : OwnI (w.setCell ⟨b, j, none⟩ (.int .i64 x)) B b n c (l.set j x) := by
  have h2 := (World.ownsRow.stored h j (.int .i64 x)).1
  unfold OwnI
  rw [List.map_set]
  exact h2
theorem OwnI.later (h : OwnI w B b n c l) (hb : Below w.heap.size w w') : OwnI w' B b n c l := own_below5 h hb
theorem OwnI.row (h : OwnI w B b n c l) : IntRow w (some ⟨b, 0, none⟩) l := by
  have hl := h.len
  subst hl
  exact intRow_of_own h
end
/-- What dispatcherref05.Heights tells. -/
def RHeightsPost (p : Cp) (w : World) (e : Ending) (w' : World) : Prop :=
  (((∃ b c l, p.whole = true ∧ Told p.code l ∧ e = .returned (.tuple #[.slice (some ⟨b, 0, none⟩) p.code.length c, .int .i64 0]) ∧ OwnI w' w.heap.size b p.code.length c l)
    ∨ ((p.whole = false ∨ Bad p.code) ∧ e = .returned (.tuple #[.slice none 0 0, .int .i64 50]))) ∧ Below w.heap.size w w')

set_option maxHeartbeats 8000000 in
set_option maxRecDepth 100000 in
theorem rheights_any (A B : Option Addr) (cA cB : Nat) (p : Cp) (w : World) (hI : CpIn w A cA B cB p) :
    Calls Tryd.prog 15 #[.agg #[.slice A p.code.length cA, .int .i64 p.vars, .slice B p.arrays.length cB]] w (RHeightsPost p w) := by
  obtain ⟨i0, hi, hz0, hz1, hz2⟩ := info_parts Tryd.infoInt
  have H0 := Lib.hid (And.intro hi (And.intro hz0 (And.intro hz1 hz2)))
  clear hi hz0 hz1 hz2
  have hbn : Below w.heap.size w (w.alloc (.cells #[.slice A p.code.length cA, .int .i64 p.vars, .slice B p.arrays.length cB] 25)) := (Below.refl _ _).alloc (Nat.le_refl _) _
  have hP1 : PgAt (w.alloc (.cells #[.slice A p.code.length cA, .int .i64 p.vars, .slice B p.arrays.length cB] 25)) w.heap.size A p.code.length cA p.vars B p.arrays.length cB := PgAt.new
  have hI1 := hI.below hbn
  have hw := rwhole_any A B cA cB p _ hI1
  have hlc := hI.lc
  have hla := hI.la
  have hvo := hI.vok
  have HI := Lib.hid hI
  have HW := Lib.hid hw
  clear hI hI1 hw
  go_enter Tryd.func15, Tryd.ntmps15
  go_wp2_with fail
  generalize (w.alloc (.cells #[.slice A p.code.length cA, .int .i64 p.vars, .slice B p.arrays.length cB] 25)) = w1 at *
  refine HW.out.mono ?_
  rintro e w2 ⟨rfl, hg2⟩
  have hb2 := Below.gr hbn hg2 hbn.size
  have hP2 := hP1.below hg2.below
  clear HW hg2 hbn hP1
  have HB2 := Lib.hid hb2
  have HP2 := Lib.hid hP2
  cases hwh : p.whole
  · have HWH := Lib.hid hwh
    clear hwh hb2 hP2
    go_wp2_with fail
    go_ret2
    exact ⟨.inr ⟨.inl HWH.out, rfl⟩, HB2.out⟩
  have hpos := (Cp.whole_parts hwh).2.1
  have hlen := (Cp.whole_parts hwh).2.2.1
  have HWH := Lib.hid hwh
  have hsz : w.heap.size < w2.heap.size := World.block_lt_of_cell? w2 _ hP2.g0
  clear hwh hP2 hb2
  go_wp2_with fail
  go_loopg [4, 5] (p.code.length + 1) (fun g t i wx => ∃ k : Nat, i = .int .i64 k ∧ k ≤ p.code.length ∧ p.code.length - k < g ∧ Hid (wx.ownsRow w2.heap.size 3 1 t k (List.replicate k (Value.int .i64 (-1)))) ∧ Hid (Below w2.heap.size w2 wx))
  case atStart => exact ⟨0, rfl, by omega, by omega, ⟨by simp, .inl ⟨rfl, rfl⟩⟩, Below.refl _ _⟩
  case round =>
    obtain ⟨k, rfl, hk, hg, HOWN, HBW⟩ := hrel
    obtain ⟨g, rfl⟩ : ∃ g, gk = g + 1 := ⟨gk - 1, by omega⟩
    have hP := HP2.out.below HBW.out
    have q0 := hP.g0
    by_cases hlt : k < p.code.length
    · obtain ⟨X, c', hv, _, hc', _, _⟩ := own_shape HOWN.out
      subst hv
      have HOWN1 := Lib.hid (HOWN.out.alloc (.cells #[.int .i64 (-1)] 3))
      have HNEWS := Lib.hid (World.news_of_block (w := wr.alloc (.cells #[.int .i64 (-1)] 3)) (B := wr.heap.size) (cs := #[.int .i64 (-1)]) (t := 3) (fr := (0, 0)) (heap_alloc_new _ _))
      have HONE := Lib.hid (show ∀ u ∈ [Value.int .i64 (-1)], u.oneCell' = true by simp [Value.oneCell'])
      have H63 := Lib.hid (show k + 1 ≤ maxLen by unfold maxLen; omega)
      have HBY := Lib.hid (show (k + 1) * 8 ≤ 140737488355328 by omega)
      have HBASE := Lib.hid (show w2.heap.size ≤ (wr.alloc (.cells #[.int .i64 (-1)] 3)).heap.size from Nat.le_trans HBW.out.size (by simp))
      have HBW1 := Lib.hid (HBW.out.alloc HBW.out.size (.cells #[.int .i64 (-1)] 3))
      clear hP
      go_wp2_with (at_builtin; refine wpList_append_lies _ rfl (.tmp 23) (.tmp 24) 23 rfl w2.heap.size 3 i0 _ 1 8 Tryd.underlying23 H0.out.1 H0.out.2.1 H0.out.2.2.1 H0.out.2.2.2 rfl (by decide) (.slice X k c') k _ rfl HOWN1.out ⟨wr.heap.size, 0, none⟩ 1 1 [Value.int .i64 (-1)] rfl rfl HNEWS.out HONE.out (by decide) H63.out HBY.out HBASE.out _ rfl ?_)
      intro g3 cap3 w3 hown3 hgrow3 _ _
      have HO3 := Lib.hid (show w3.ownsRow w2.heap.size 3 1 (.slice (some ⟨g3, 0, none⟩) (k + 1) cap3) (k + 1) (List.replicate (k + 1) (Value.int .i64 (-1))) by rw [List.replicate_succ']; exact hown3)
      have HBW3 := Lib.hid (below_grown5 HBW1.out hgrow3 HBASE.out (fun g hg => (HOWN1.out.lt g hg).1))
      clear hown3 hgrow3 HOWN1 HNEWS HONE H63 HBY HBASE HBW1 q0 HOWN HBW
      go_wp2_with fail
      go_roundg g
      case measure => omega
      case rel => exact ⟨k + 1, by go_num, by omega, by omega, HO3, HBW3⟩
    · have hke : k = p.code.length := by omega
      obtain ⟨X, c', hv, hnc, hc', hX, hX0⟩ := own_shape HOWN.out
      subst hv
      cases X with
      | none => have := (hX0 rfl).1; omega
      | some a =>
        obtain ⟨b, rfl, hb0, hb1⟩ := hX a rfl
        subst hke
        have hown : OwnI wr w2.heap.size b p.code.length c' (List.replicate p.code.length (-1)) := by
          unfold OwnI
          rw [List.map_replicate]
          exact HOWN.out
        have hcz := hown.get 0 (by simpa using hpos)
        rw [List.getElem_replicate] at hcz
        have hfz := hown.fz 0
        have HOWN2 := Lib.hid (hown.set 0 0)
        have HBW2 := Lib.hid (HBW.out.setCell (p := ⟨b, 0, none⟩) hb0 (.int .i64 0))
        have hbl0 := hb1
        clear hown hP HOWN HBW hX hX0 hb1
        go_wp2_with fail
        have HST := Lib.hid (Some5.start p.code)
        have hcs := cnt_start hpos
        clear hcz hfz q0
        go_loopg [6] (p.code.length + 1) (fun g t wx => ∃ (m : Bool) (l : List Int), t = .bool m ∧ 0 < g ∧ (m = true → cnt l + 1 < g) ∧ Hid (Some5 p.code l) ∧ Hid (m = false → ∀ j (hj : j < l.length), l[j] ≠ -1 → Shut p.code l j) ∧ Hid (OwnI wx w2.heap.size b p.code.length c' l) ∧ Hid (Below w2.heap.size w2 wx))
        case atStart => exact ⟨true, _, rfl, by omega, fun _ => by omega, HST, Lib.hid (fun h => by cases h), HOWN2, HBW2⟩
        case round =>
          clear HOWN2 HBW2 HST hcs hbl0
          obtain ⟨m, l, rfl, hg0, hgm, HS5, HSH, HOWN, HBW⟩ := hrel
          obtain ⟨g, rfl⟩ : ∃ g, gk = g + 1 := ⟨gk - 1, by omega⟩
          cases m
          · have HT := Lib.hid (show Told p.code l from ⟨HS5.out, HSH.out rfl⟩)
            clear hgm
            go_wp2_with fail
            go_ret2
            exact ⟨.inl ⟨b, c', l, HWH.out, HT.out, rfl, HOWN.out.mono HB2.out.size⟩, HB2.out.trans (HBW.out.mono HB2.out.size)⟩
          · have hc0 := hgm rfl
            obtain ⟨c0, hcc⟩ : ∃ c0, c0 = cnt l := ⟨_, rfl⟩
            rw [← hcc] at hc0
            have HCC := Lib.hid hcc
            clear hgm hcc HSH
            go_wp2_with fail
            go_loopg [6, 7] (p.code.length + 1) (fun g3 t i wx => ∃ (m : Bool) (l : List Int) (a : Nat), t = .bool m ∧ i = .int .i64 a ∧ a ≤ p.code.length ∧ p.code.length - a < g3 ∧ Hid (cnt l ≤ c0) ∧ Hid (m = true → cnt l < c0) ∧ Hid (Some5 p.code l) ∧ Hid (m = false → ∀ j (hj : j < l.length), j < a → l[j] ≠ -1 → Shut p.code l j) ∧ Hid (OwnI wx w2.heap.size b p.code.length c' l) ∧ Hid (Below w2.heap.size w2 wx))
            case atStart => exact ⟨false, l, 0, rfl, rfl, by omega, by omega, Lib.hid (Nat.le_of_eq HCC.out.symm), Lib.hid (fun h => by cases h), HS5, Lib.hid (fun _ j _ hj => by omega), HOWN, HBW⟩
            case round =>
              clear HOWN HBW HS5 HCC hg0 l
              obtain ⟨m, l, a, rfl, rfl, ha, hg3, HC1, HC2, HS5, HSH, HOWN, HBW⟩ := hrel
              obtain ⟨g3, rfl⟩ : ∃ g3, gk = g3 + 1 := ⟨gk - 1, by omega⟩
              by_cases hlt : a < p.code.length
              · have hal : a < l.length := by rw [HS5.out.len]; exact hlt
                have hca := HOWN.out.get a hal
                have hneg := HS5.out.neg hal
                by_cases e0 : l[a] = -1
                · rw [e0] at hca
                  have HSH2 := Lib.hid (show m = false → ∀ j (hj : j < l.length), j < a + 1 → l[j] ≠ -1 → Shut p.code l j from fun hm j hj hja hne => by
                    by_cases e : j = a
                    · subst e; exact absurd e0 hne
                    · exact HSH.out hm j hj (by omega) hne)
                  clear hneg e0
                  go_wp2_with fail
                  go_roundg g3
                  case measure => omega
                  case rel => exact ⟨m, l, a + 1, rfl, by go_num, by omega, by omega, HC1, HC2, HS5, HSH2, HOWN, HBW⟩
                · have hv0 := HS5.out.pos hal e0
                  have hv1 := HS5.out.le hal
                  have hP := HP2.out.below HBW.out
                  have hI := HI.out.below (HB2.out.trans (HBW.out.mono HB2.out.size))
                  obtain ⟨b1, o1, rfl, hb1, d0, d1⟩ := hI.code a hlt
                  have q0 := hP.g0
                  have q1 := hP.g1
                  have q2 := hP.g2
                  have hiok := hI.ok _ (List.getElem_mem hlt)
                  have htk0 := fits_tk ((Cp.whole_parts HWH.out).2.2.2.2.2.1 _ (List.getElem_mem hlt))
                  have htk1 := tk_le p.code[a]
                  have hgv := gv_pos p.code[a]
                  have HRT := Lib.hid (fun w' => rtakes_any p.code[a] w' hiok)
                  rw [tkR_fits htk0] at HRT
                  have HBAD := Lib.hid (fun hb => HS5.out.bad hal hlt e0 hb)
                  have HRIN := Lib.hid (fun ht hm => RIn.start HS5.out hal hlt e0 ht hm)
                  have HWIN := Lib.hid (fun x hx => ways_in (p := p) HWH.out hlt (x := x) hx)
                  have hPl : w.heap.size < wr.heap.size := World.block_lt_of_cell? _ _ q0
                  have hbl := HOWN.out.bounds
                  have HIN := Lib.hid hI
                  have HPN := Lib.hid hP
                  clear hneg hiok hI hP
                  generalize hxi : p.code[a] = xi at *
                  generalize hvv : l[a] = v at *
                  have HV := Lib.hid hvv
                  clear hvv
                  have HXI := Lib.hid hxi
                  clear hxi
                  go_wp2_with fail
                  refine (HRT.out _).mono ?_
                  rintro e w6 ⟨rfl, hg6⟩
                  have hb6 := hg6.below
                  have HOWN6 := Lib.hid (HOWN.out.later hb6)
                  have HBW6 := Lib.hid (HBW.out.trans (hb6.mono HBW.out.size))
                  have hP6 := HPN.out.below hb6
                  have HI6 := Lib.hid (HIN.out.below hb6)
                  have hca6 := HOWN6.out.get a hal
                  rw [HV.out] at hca6
                  clear q0 q1 q2 d0 d1 hb1 hPl hca HRT HOWN HBW HPN HIN hg6 hb6
                  have q0 := hP6.g0
                  have q1 := hP6.g1
                  have q2 := hP6.g2
                  clear hP6
                  generalize htk : tkOf xi = tk at *
                  generalize hgvv : gvOf xi = gv at *
                  have HTKE := Lib.hid htk
                  have HGVE := Lib.hid hgvv
                  clear htk hgvv
                  by_cases t1 : v < tk
                  · have HB := Lib.hid (HBAD.out (.inl t1))
                    go_wp2_with fail
                    go_ret2
                    exact ⟨.inr ⟨.inr HB.out, rfl⟩, HB2.out.trans (HBW6.out.mono HB2.out.size)⟩
                  by_cases t2 : 200 < v - tk + gv
                  · have HB := Lib.hid (HBAD.out (.inr t2))
                    go_wp2_with fail
                    go_ret2
                    exact ⟨.inr ⟨.inr HB.out, rfl⟩, HB2.out.trans (HBW6.out.mono HB2.out.size)⟩
                  have HR := Lib.hid (HRIN.out (by omega) (by omega))
                  have HWY := Lib.hid (rways_any (some ⟨b1, o1, none⟩) B cA p.arrays.length cB p.vars p.code a w6 HI6.out.code hlt (by omega))
                  clear HBAD HRIN
                  go_wp2_with fail
                  refine HWY.out.mono ?_
                  rintro e w7 ⟨⟨X, cX, rfl, hX, hcX, hXn⟩, hg7⟩
                  have hb7 := hg7.below
                  have hbb6 := HOWN6.out.bounds
                  have HXN := Lib.hid (show ∀ a, X = some a → b < a.block from fun a h => Nat.lt_of_lt_of_le hbb6.2 (hXn a h))
                  have HOWN7 := Lib.hid (HOWN6.out.later hb7)
                  have HBW7 := Lib.hid (HBW6.out.trans (hb7.mono HBW6.out.size))
                  have hxi : p.code[a] = xi := HXI.out
                  rw [hxi] at hX hcX ⊢
                  clear hxi
                  obtain ⟨ws, hws⟩ : ∃ ws, ws = waysOf a xi := ⟨_, rfl⟩
                  rw [← hws] at hX hcX HWIN ⊢
                  have HWS := Lib.hid hws
                  have HX := Lib.hid hX
                  have hwl : ws.length ≤ 2 := by
                    rw [hws]
                    unfold waysOf
                    repeat' split
                    all_goals simp
                  obtain ⟨hi, hhi⟩ : ∃ hi, hi = v - tk + gv := ⟨_, rfl⟩
                  have HHI := Lib.hid hhi
                  have hhi0 : 0 ≤ hi := by omega
                  have hhi1 : hi ≤ 200 := by omega
                  clear HOWN6 HBW6 HI6 hb7 hg7 hX hws q0 q1 q2 hca6 HWY hXn hbb6
                  go_wp2_with fail
                  rw [← hhi]
                  clear hhi
                  go_loopg [6, 12] (ws.length + 1) (fun g4 t i wx => ∃ (m : Bool) (l : List Int) (k : Nat), t = .bool m ∧ i = .int .i64 k ∧ k ≤ ws.length ∧ ws.length - k < g4 ∧ Hid (cnt l ≤ c0) ∧ Hid (m = true → cnt l < c0) ∧ Hid (RIn p.code l a v (ws.take k)) ∧ Hid (m = false → ∀ j (hj : j < l.length), j < a → l[j] ≠ -1 → Shut p.code l j) ∧ Hid (OwnI wx w2.heap.size b p.code.length c' l) ∧ Hid (Below w2.heap.size w2 wx) ∧ Hid (IntRow wx X ws))
                  case atStart => exact ⟨m, l, 0, rfl, rfl, by omega, by omega, HC1, HC2, HR, HSH, HOWN7, HBW7, HX⟩
                  case round =>
                    clear HC1 HC2 HR HSH HOWN7 HBW7 HX HS5 HV hal l
                    obtain ⟨m, l, k, rfl, rfl, hk, hg4, HC1, HC2, HR, HSH, HOWN, HBW, HX⟩ := hrel
                    obtain ⟨g4, rfl⟩ : ∃ g4, gk = g4 + 1 := ⟨gk - 1, by omega⟩
                    by_cases hltk : k < ws.length
                    · obtain ⟨bx, ox, rfl, hbx, hcx⟩ := HX.out k hltk
                      obtain ⟨hx0, hx1⟩ := HWIN.out _ (List.getElem_mem hltk)
                      have hbx2 := HXN.out _ rfl
                      obtain ⟨x, hx⟩ : ∃ x : Nat, ws[k] = x := ⟨ws[k].toNat, by omega⟩
                      rw [hx] at hcx hx0 hx1
                      have htkw := List.take_succ_eq_append_getElem hltk
                      rw [hx] at htkw
                      have hmem : (x : Int) ∈ waysOf a (p.code[a]'HR.out.la) := by
                        have h : p.code[a]'HR.out.la = xi := HXI.out
                        rw [h, ← HWS.out, ← hx]
                        exact List.getElem_mem hltk
                      have hxl : x < l.length := by rw [HR.out.len]; omega
                      have hhe : v - tkOf (p.code[a]'HR.out.la) + gvOf (p.code[a]'HR.out.la) = hi := by
                        have h : p.code[a]'HR.out.la = xi := HXI.out
                        rw [h, HTKE.out, HGVE.out, HHI.out]
                      have HNEW := Lib.hid (fun h1 => HR.out.new hmem hxl h1)
                      have HSAME := Lib.hid (fun h1 => HR.out.same hxl h1)
                      have HBAD := Lib.hid (fun h1 h2 => HR.out.bad hmem hxl h1 h2)
                      rw [hhe, ← htkw] at HNEW HSAME
                      rw [hhe] at HBAD
                      have hco := HOWN.out.get x hxl
                      have hneg := HR.out.toSome5.neg hxl
                      have hlen3 := HOWN.out.len
                      clear htkw hmem hhe hx
                      by_cases e1 : l[x] = -1
                      · have hfz := HOWN.out.fz x
                        have hset := HOWN.out.set x hi
                        have hbnx : b ≠ bx := Nat.ne_of_lt hbx2
                        have hblt := HOWN.out.bounds.2
                        have hcx2 : (wr.setCell ⟨b, x, none⟩ (.int .i64 hi)).cell? ⟨bx, ox + k, none⟩ = some (.int .i64 (x : Int)) := by
                          rw [World.cell?_setCell_other _ _ _ _ (by simp [hbnx])]; exact hcx
                        have hco2 := hset.get x (by rw [List.length_set]; exact hxl)
                        rw [List.getElem_set_self] at hco2
                        have HSET := Lib.hid hset
                        have HBW2 := Lib.hid (HBW.out.setCell (p := ⟨b, x, none⟩) hb0 (.int .i64 hi))
                        have HX2 := Lib.hid (HX.out.keep (w' := wr.setCell ⟨b, x, none⟩ (.int .i64 hi)) (by simp) (fun j => World.cell?_setCell_other _ _ _ _ (by simp [hbnx])))
                        have hcnt := cnt_set (x := hi) hxl e1 (by omega)
                        have hc1 := HC1.out
                        have HR2 := Lib.hid (HNEW.out e1)
                        rw [e1] at hco
                        clear hset hneg e1 HNEW HSAME HBAD HR
                        go_wp2_with fail
                        go_roundg g4
                        case measure => omega
                        case rel => exact ⟨true, l.set x hi, k + 1, rfl, by go_num, by omega, by omega, Lib.hid (by omega), Lib.hid (fun _ => by omega), HR2, Lib.hid (fun h => by cases h), HSET, HBW2, HX2⟩
                      · have hnn : ¬ l[x] < 0 := fun h => e1 (hneg.1 h)
                        by_cases e2 : l[x] = hi
                        · have HR2 := Lib.hid (HSAME.out e2)
                          rw [e2] at hco hnn
                          clear hneg e1 e2 HNEW HSAME HBAD HR
                          go_wp2_with fail
                          go_roundg g4
                          case measure => omega
                          case rel => exact ⟨m, l, k + 1, rfl, by go_num, by omega, by omega, HC1, HC2, HR2, HSH, HOWN, HBW, HX⟩
                        · have HB := Lib.hid (HBAD.out e1 e2)
                          clear hneg e1 HNEW HSAME HBAD HR
                          generalize l[x] = y at *
                          have f1 : (y != hi) = true := by simpa using e2
                          clear e2
                          go_wp2_with fail
                          go_ret2
                          exact ⟨.inr ⟨.inr HB.out, rfl⟩, HB2.out.trans (HBW.out.mono HB2.out.size)⟩
                    · have hke : k = ws.length := by omega
                      subst hke
                      have hr := HR.out
                      rw [List.take_length, HWS.out] at hr
                      have hxi : p.code[a]'hlt = xi := HXI.out
                      rw [← hxi] at hr
                      have HSH3 := Lib.hid (show m = false → ∀ j (hj : j < l.length), j < a + 1 → l[j] ≠ -1 → Shut p.code l j from fun hm j hj hja hne => by
                        by_cases e : j = a
                        · subst e; exact RIn.shut hlt hr
                        · exact HSH.out hm j hj (by omega) hne)
                      have HS5 := Lib.hid hr.toSome5
                      clear hr hxi
                      go_wp2_with fail
                      go_roundg g3
                      case measure => omega
                      case rel => exact ⟨m, l, a + 1, rfl, by go_num, by omega, by omega, HC1, HC2, HS5, HSH3, HOWN, HBW⟩
              · have hae : a = p.code.length := by omega
                subst hae
                have HSH2 := Lib.hid (show m = false → ∀ j (hj : j < l.length), l[j] ≠ -1 → Shut p.code l j from fun hm j hj hne => HSH.out hm j hj (by rw [← HS5.out.len]; exact hj) hne)
                have hc1 := HC1.out
                have hc2 := HC2.out
                go_wp2_with fail
                go_roundg g
                case measure => omega
                case rel => exact ⟨m, l, rfl, by omega, fun h => by have := hc2 h; omega, HS5, HSH2, HOWN, HBW⟩
end Go.Proofs.YtaanhkepimjelaaDoor
