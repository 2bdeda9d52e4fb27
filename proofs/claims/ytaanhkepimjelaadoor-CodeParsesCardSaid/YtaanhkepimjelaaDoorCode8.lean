/- The walk of code.Heights. -/
import Derived.Test.YtaanhkepimjelaaDoorCode7
import Derived.Test.YtaanhkepimjelaaDoorCodeQ
import Derived.Shelf.SlSortCmp.QuietGrown
namespace Go.Proofs.YtaanhkepimjelaaDoor
open Go.RowKit Go.Sort
set_option linter.unusedVariables false
set_option linter.unusedSimpArgs false

/-- A block of numbers. -/
def IntBlk (w : World) (b : Nat) (l : List Int) : Prop := w.heap[b]? = some (.cells (l.map (Value.int .i64)).toArray 3 (0, 0))
/-- Numbers from a block's head on. -/
def NatsAt (w : World) (b : Nat) (l : List Nat) : Prop := b < w.heap.size ∧ ∀ k (hk : k < l.length), w.cell? ⟨b, k, none⟩ = some (.int .i64 (l[k] : Nat))
theorem IntBlk.get {w : World} {b : Nat} {l : List Int} (h : IntBlk w b l) (k : Nat) (hk : k < l.length) : w.cell? ⟨b, k, none⟩ = some (.int .i64 l[k]) := by
  rw [Lib.cell_of_heap h]
  simp [List.getElem?_eq_getElem hk]
theorem IntBlk.fz {w : World} {b : Nat} {l : List Int} (h : IntBlk w b l) (k : Nat) : w.frozen? ⟨b, k, none⟩ = false := by
  unfold IntBlk at h
  simp [World.frozen?, h]
theorem IntBlk.lt {w : World} {b : Nat} {l : List Int} (h : IntBlk w b l) : b < w.heap.size := (Array.getElem?_eq_some_iff.1 h).1
theorem IntBlk.below {w w' : World} {b : Nat} {l : List Int} (h : IntBlk w b l) (hb : Below w.heap.size w w') : IntBlk w' b l := (hb.block b h.lt).trans h
theorem IntBlk.set {w : World} {b : Nat} {l : List Int} (h : IntBlk w b l) (k : Nat) (x : Int) : IntBlk (w.setCell ⟨b, k, none⟩ (.int .i64 x)) b (l.set k x) := by
  have h2 := heap_setCell_same w b k _ 3 (.int .i64 x) h
  unfold IntBlk
  rw [h2]
  simp [List.map_set]
theorem NatsAt.below {w w' : World} {b : Nat} {l : List Nat} (h : NatsAt w b l) (hb : Below w.heap.size w w') : NatsAt w' b l :=
  ⟨Nat.lt_of_lt_of_le h.1 hb.size, fun k hk => cell_later hb (h.2 k hk)⟩
theorem NatsAt.set {w : World} {b b' : Nat} {l : List Nat} (h : NatsAt w b l) (hne : b' ≠ b) (k : Nat) (x : Value) : NatsAt (w.setCell ⟨b', k, none⟩ x) b l :=
  ⟨by simpa using h.1, fun j hj => by rw [World.cell?_setCell_other _ _ _ _ (by simp [Ne.symm hne])]; exact h.2 j hj⟩
theorem NatsAt.take {w : World} {b : Nat} {l : List Nat} (h : NatsAt w b l) (k : Nat) : NatsAt w b (l.take k) :=
  ⟨h.1, fun j hj => by
    rw [List.length_take] at hj
    rw [List.getElem_take]
    exact h.2 j (by omega)⟩

theorem IntBlk.grow {w : World} {b : Nat} {l : List Int} (h : IntBlk w b l) (n : Nat) (os : Array Obj) (k : Nat) (hk : k < l.length) : (grow (w.drewN n) os).cell? ⟨b, k, none⟩ = some (.int .i64 l[k]) := cell_grown h.lt (h.get k hk) n os
theorem IntBlk.keep {w w' : World} {b B : Nat} {l : List Int} (h : IntBlk w b l) (hb : Below B w w') (hlt : b < B) : IntBlk w' b l := (hb.block b hlt).trans h
theorem IntRow.keep {w w' : World} {b o : Nat} {l : List Int} (h : IntRow w (some ⟨b, o, none⟩) l) (hs : w.heap.size ≤ w'.heap.size) (hc : ∀ j, w'.cell? ⟨b, j, none⟩ = w.cell? ⟨b, j, none⟩) : IntRow w' (some ⟨b, o, none⟩) l := fun k hk => by
  obtain ⟨b', o', e, hlt, h1⟩ := h k hk
  cases e
  exact ⟨b, o, rfl, Nat.lt_of_lt_of_le hlt hs, (hc _).trans h1⟩
def natV (j : Nat) : Value := .int .i64 (j : Int)
theorem natsAt_pushed {w : World} {g n : Nat} {L : List Nat} {x : Nat} (hn : n = L.length) (h : w.heap[g]? = some (.cells (splice (fl 0 (n + 1)) 0 (L.map natV)).toArray 3 (0, 0))) : NatsAt (w.setCell ⟨g, n, none⟩ (.int .i64 (x : Int))) g (L ++ [x]) := by
  have h2 := heap_setCell_same w g n _ 3 (.int .i64 (x : Int)) h
  refine ⟨(Array.getElem?_eq_some_iff.1 h2).1, fun k hk => ?_⟩
  rw [Lib.cell_of_heap h2]
  rw [List.length_append, List.length_singleton] at hk
  subst hn
  have hsp : (splice (fl 0 (L.length + 1)) 0 (L.map natV)) = (L.map natV) ++ [.int .i64 0] := by
    unfold splice fl
    simp
  rw [hsp]
  by_cases e : k < L.length
  · rw [List.getElem_append_left e]
    simp only [List.setIfInBounds_toArray, List.getElem?_toArray]
    rw [List.getElem?_set, if_neg (by omega), List.getElem?_append_left (by simpa using e)]
    simp [List.getElem?_eq_getElem e, natV]
  · obtain rfl : k = L.length := by omega
    simp only [List.setIfInBounds_toArray, List.getElem?_toArray]
    rw [List.getElem?_set, if_pos rfl, if_pos (by simp)]
    simp

/-- What code.Heights tells. -/
def HeightsPost (p : Cp) (w : World) (e : Ending) (w' : World) : Prop :=
  (((∃ b l, p.whole = true ∧ Told p.code l ∧ e = .returned (.tuple #[.slice (some ⟨b, 0, none⟩) l.length l.length, .int .i64 0]) ∧ w.heap.size ≤ b ∧ IntBlk w' b l)
    ∨ ((p.whole = false ∨ Bad p.code) ∧ e = .returned (.tuple #[.slice none 0 0, .int .i64 50]))) ∧ Below w.heap.size w w')

set_option maxHeartbeats 8000000 in
set_option maxRecDepth 100000 in
theorem heights_any (A B : Option Addr) (cA cB : Nat) (p : Cp) (w : World) (hI : CpIn w A cA B cB p) :
    Calls Tryd.prog 11 #[.agg #[.slice A p.code.length cA, .int .i64 p.vars, .slice B p.arrays.length cB]] w (HeightsPost p w) := by
  have mixed : Tryd.prog.follows .mixedOrders = true := by kernel_rfl
  have hbn : Below w.heap.size w (w.alloc (.cells #[.slice A p.code.length cA, .int .i64 p.vars, .slice B p.arrays.length cB] 25)) := (Below.refl _ _).alloc (Nat.le_refl _) _
  have hP1 : PgAt (w.alloc (.cells #[.slice A p.code.length cA, .int .i64 p.vars, .slice B p.arrays.length cB] 25)) w.heap.size A p.code.length cA p.vars B p.arrays.length cB := PgAt.new
  have hI1 := hI.below hbn
  have hw := whole_any A B cA cB p _ hI1
  have hlc := hI.lc
  have hla := hI.la
  have hvo := hI.vok
  have HI := Lib.hid hI
  have HW := Lib.hid hw
  clear hI hI1 hw
  go_enter Tryd.func11, Tryd.ntmps11
  go_wp2_with fail
  generalize (w.alloc (.cells #[.slice A p.code.length cA, .int .i64 p.vars, .slice B p.arrays.length cB] 25)) = w1 at *
  refine HW.out.mono ?_
  rintro e w2 ⟨rfl, hg2⟩
  have hb2 := Below.gr hbn hg2 hbn.size
  have hP2 := hP1.below hg2.below
  clear HW hg2 hbn hP1
  have HB2 := Lib.hid hb2
  have HP2 := Lib.hid hP2
  cases hwh : p.whole
  · have HWH := Lib.hid hwh
    clear hwh hb2 hP2
    go_wp2_with fail
    go_ret2
    exact ⟨.inr ⟨.inl HWH.out, rfl⟩, HB2.out⟩
  have hpos := (Cp.whole_parts hwh).2.1
  have hlen := (Cp.whole_parts hwh).2.2.1
  have HWH := Lib.hid hwh
  have q0 := hP2.g0
  have q1 := hP2.g1
  have q2 := hP2.g2
  have hsz : w.heap.size < w2.heap.size := World.block_lt_of_cell? w2 _ q0
  clear hwh hP2
  go_wp2_with fail
  have hb3 : Below w2.heap.size w2 (w2.alloc (.cells #[.int .i64 (-1)] 3)) := (Below.refl _ _).alloc (Nat.le_refl _) _
  have hc3 : (w2.alloc (.cells #[.int .i64 (-1)] 3)).cell? ⟨w2.heap.size, 0, none⟩ = some (.int .i64 (-1)) := by rw [World.cell?_alloc_new]; rfl
  refine (repeat_any p.code.length w2.heap.size 0 1 _ hpos hlen hc3).mono ?_
  rintro e w4 ⟨b, rfl, hbb, hblk, hb4⟩
  have hbw4 := hb3.trans (hb4.mono hb3.size)
  have hbb2 : w2.heap.size ≤ b := Nat.le_trans hb3.size hbb
  have hblk4 : IntBlk w4 b (List.replicate p.code.length (-1)) := by
    unfold IntBlk
    rw [hblk, List.map_replicate]
  have hbne : w.heap.size ≠ b := by omega
  have hfz := hblk4.fz 0
  have hset := hblk4.set 0 0
  have hblt : b < w4.heap.size := hblk4.lt
  have hcz := hblk4.get 0 (by simpa using hpos)
  rw [List.getElem_replicate] at hcz
  have hbw5 := hbw4.setCell (p := ⟨b, 0, none⟩) hbb2 (.int .i64 0)
  clear hb3 hc3 hbb hblk hb4 hbw4 hblk4 hb2
  have HSET := Lib.hid hset
  have HBW5 := Lib.hid hbw5
  have hset5 := hset
  clear hset hbw5
  have hnew : NatsAt ((w4.setCell ⟨b, 0, none⟩ (.int .i64 0)).alloc (.cells #[.int .i64 0] 3)) w4.heap.size [0] := ⟨by simp, fun k hk => by
    have : k = 0 := by simpa using hk
    subst this
    have h := World.cell?_alloc_new (w4.setCell ⟨b, 0, none⟩ (.int .i64 0)) #[.int .i64 0] 3 0
    rw [World.size_setCell] at h
    rw [h]
    rfl⟩
  have hset6 := hset5.below ((Below.refl _ _).alloc (Nat.le_refl _) (.cells #[.int .i64 0] 3))
  have hbw6 := HBW5.out.alloc HBW5.out.size (.cells #[.int .i64 0] 3)
  have HNEW := Lib.hid hnew
  have HSET6 := Lib.hid hset6
  have HBW6 := Lib.hid hbw6
  clear hnew hset6 hbw6 hset5 HSET HBW5
  go_wp2_with fail
  clear hcz hfz
  go_loopg [5] (p.code.length + 1) (fun g t wx => ∃ (l : List Int) (L : List Nat) (n gt ct : Nat), t = .slice (some ⟨gt, 0, none⟩) n ct ∧ n ≤ ct ∧ ct ≤ 4000 ∧ b < gt ∧ cnt l + n < g ∧ Hid (n = L.length) ∧ Hid (HInv p.code l L) ∧ Hid (IntBlk wx b l) ∧ Hid (NatsAt wx gt L) ∧ Hid (Below w2.heap.size w2 wx))
  case atStart => exact ⟨_, [0], 1, w4.heap.size, 1, rfl, by omega, by omega, hblt, by have := cnt_start hpos; omega, rfl, HInv.start hpos, HSET6.out, HNEW.out, HBW6.out⟩
  case round =>
    obtain ⟨l, L, n, gt, ct, rfl, hn, hct, hbg, hg, HN, HINV, HBLK, HNAT, HBW⟩ := hrel
    obtain ⟨g, rfl⟩ : ∃ g, gk = g + 1 := ⟨gk - 1, by omega⟩
    clear HSET6 HNEW HBW6
    rcases List.eq_nil_or_concat L with rfl | ⟨L', a, hLL⟩
    · have hn0 : n = 0 := HN.out
      have ht := HINV.out.told
      have hll := ht.len
      have HT := Lib.hid ht
      have HLL := Lib.hid hll
      clear ht hll
      subst hn0
      go_wp2_with fail
      go_ret2
      refine ⟨.inl ⟨b, l, HWH.out, HT.out, by rw [HLL.out]; rfl, ?_, HBLK.out⟩, HB2.out.trans (HBW.out.mono HB2.out.size)⟩
      have := HB2.out.size
      omega
    · rw [List.concat_eq_append] at hLL
      subst hLL
      obtain ⟨m, rfl⟩ : ∃ m, n = m + 1 := ⟨L'.length, by have := HN.out; simpa using this⟩
      have hml : m = L'.length := by have := HN.out; simpa using this
      have HML := Lib.hid hml
      clear hml HN
      obtain ⟨hal, hane⟩ := HINV.out.todo a (by simp)
      have hac : a < p.code.length := by rw [← HINV.out.len]; exact hal
      have hca := HNAT.out.2 L'.length (by simp)
      rw [List.getElem_append_right (Nat.le_refl _)] at hca
      simp only [Nat.sub_self, List.getElem_cons_zero] at hca
      rw [← HML.out] at hca
      have hI := HI.out.below (HB2.out.trans (HBW.out.mono HB2.out.size))
      obtain ⟨b1, o1, hA, hb1, d0, d1⟩ := hI.code a hac
      have hP := HP2.out.below HBW.out
      have hPl : w.heap.size < wr.heap.size := Nat.lt_of_lt_of_le hsz HBW.out.size
      have k0 := fun n os => cell_grown (w := wr) hPl hP.g0 n os
      have k1 := fun n os => cell_grown (w := wr) hPl hP.g1 n os
      have k2 := fun n os => cell_grown (w := wr) hPl hP.g2 n os
      have k3 := fun n os => cell_grown (w := wr) hb1 d0 n os
      have k4 := fun n os => cell_grown (w := wr) hb1 d1 n os
      have hok := hI.ok _ (List.getElem_mem hac)
      have HTK := Lib.hid (fun w' => takes_any A B p.code.length cA p.arrays.length cB p.vars p.code[a] w' hok (by omega) (by omega))
      have HWY := Lib.hid (fun w' => ways_any a p.code[a] w' (by omega))
      have hv0 := HINV.out.toSome5.pos hal hane
      have hv1 := (HINV.out.sound a hal hane).le
      have htk0 := fits_tk ((Cp.whole_parts HWH.out).2.2.2.2.2.1 _ (List.getElem_mem hac))
      have htk1 := tk_le p.code[a]
      have hgv := gv_pos p.code[a]
      have HBAD := Lib.hid (fun hb => HINV.out.bad hal hac hb)
      have HPOP := Lib.hid (fun ht hm => HINV.out.pop hal hac ht hm)
      have HWIN := Lib.hid (fun x hx => ways_in (p := p) HWH.out hac (x := x) hx)
      have hca2 := HBLK.out.get a hal
      have HNAT2 := Lib.hid (HNAT.out.take L'.length)
      subst hA
      clear hI hP hok
      go_upto_region 9 with fail
      clear hca2
      generalize hxi : p.code[a] = xi at *
      go_quiet_grown (exact Calls.grown_of (HTK.out _))
      have hb6 := (Gr.below ⟨nq, osq, rfl⟩ : Below wr.heap.size wr (grow (wr.drewN nq) osq))
      have r0 := k0 nq osq
      have r1 := k1 nq osq
      have r2 := k2 nq osq
      have r3 := k3 nq osq
      have r4 := k4 nq osq
      have hca2 := HBLK.out.grow nq osq a hal
      clear k0 k1 k2 k3 k4 HTK
      generalize grow (wr.drewN nq) osq = w6 at *
      generalize l[a] = v at *
      have HXI := Lib.hid hxi
      have HNAT6 := Lib.hid (HNAT2.out.below hb6)
      have HBLK6 := Lib.hid (HBLK.out.below hb6)
      have HBW6 := Lib.hid (HBW.out.trans (hb6.mono HBW.out.size))
      generalize htk : tkOf xi = tk at *
      generalize hgvv : gvOf xi = gv at *
      have HTKE := Lib.hid htk
      have HGVE := Lib.hid hgvv
      clear hxi HNAT HNAT2 HBLK HBW hb6 htk hgvv hca hb1 hPl hal
      by_cases t1 : v < tk
      · have HB := Lib.hid (HBAD.out (.inl t1))
        go_wp2_with fail
        go_ret2
        exact ⟨.inr ⟨.inr HB.out, rfl⟩, HB2.out.trans (HBW6.out.mono HB2.out.size)⟩
      by_cases t2 : 200 < v - tk + gv
      · have HB := Lib.hid (HBAD.out (.inr t2))
        go_wp2_with fail
        go_ret2
        exact ⟨.inr ⟨.inr HB.out, rfl⟩, HB2.out.trans (HBW6.out.mono HB2.out.size)⟩
      have HIN := Lib.hid (HPOP.out (by omega) (by omega))
      clear HBAD HPOP HINV
      go_wp2_with fail
      refine (HWY.out _).mono ?_
      rintro e w7 ⟨⟨X, cX, rfl, hX, hcX, hXn⟩, hg7⟩
      have HXN := Lib.hid (show ∀ a, X = some a → b < a.block from fun a h => Nat.lt_of_lt_of_le HBLK6.out.lt (hXn a h))
      clear hXn
      have hb7 := hg7.below
      have HNAT7 := Lib.hid (HNAT6.out.below hb7)
      have HBLK7 := Lib.hid (HBLK6.out.below hb7)
      have HBW7 := Lib.hid (HBW6.out.trans (hb7.mono HBW6.out.size))
      obtain ⟨ws, hws⟩ : ∃ ws, ws = waysOf a xi := ⟨_, rfl⟩
      rw [← hws] at hX hcX HWIN ⊢
      have HWS := Lib.hid hws
      have HX := Lib.hid hX
      have hwl : ws.length ≤ 2 := by
        rw [hws]
        unfold waysOf
        repeat' split
        all_goals simp
      obtain ⟨hi, hhi⟩ : ∃ hi, hi = v - tk + gv := ⟨_, rfl⟩
      have HHI := Lib.hid hhi
      have hhi0 : 0 ≤ hi := by omega
      have hhi1 : hi ≤ 200 := by omega
      clear HNAT6 HBLK6 HBW6 hb7 hg7 hX hws r0 r1 r2 r3 r4 hca2 HWY
      go_wp2_with fail
      rw [← hhi]
      clear hhi
      have HNATL := Lib.hid (show NatsAt w7 gt L' by have h := HNAT7.out; rw [List.take_left] at h; exact h)
      have hgm : cnt l + m < g := by omega
      have hmc : m ≤ ct := by omega
      clear HNAT7 hg hn
      go_loopg [5, 76] (ws.length + 1) (fun g2 t i wx => ∃ (k : Nat) (l : List Int) (L : List Nat) (n gt ct : Nat), t = .slice (some ⟨gt, 0, none⟩) n ct ∧ i = .int .i64 k ∧ k ≤ ws.length ∧ ws.length - k < g2 ∧ n ≤ ct ∧ ct ≤ 4000 ∧ b < gt ∧ cnt l + n < g ∧ Hid (n = L.length) ∧ Hid (HIn p.code l L a v (ws.take k)) ∧ Hid (IntBlk wx b l) ∧ Hid (NatsAt wx gt L) ∧ Hid (Below w2.heap.size w2 wx) ∧ Hid (IntRow wx X ws))
      case atStart => exact ⟨0, l, L', m, gt, ct, rfl, rfl, by omega, by omega, hmc, hct, hbg, hgm, HML, HIN, HBLK7, HNATL, HBW7, HX⟩
      case round =>
        clear HIN HBLK7 HNATL HML hgm hbg hct hmc HBW7 HX
        obtain ⟨k, l, L, n, gt, ct, rfl, rfl, hk, hg2, hn, hct, hbg, hgm, HN, HIN, HBLK, HNAT, HBW, HX⟩ := hrel
        obtain ⟨g2, rfl⟩ : ∃ g2, gk = g2 + 1 := ⟨gk - 1, by omega⟩
        by_cases hlt : k < ws.length
        · obtain ⟨bx, ox, rfl, hbx, hcx⟩ := HX.out k hlt
          obtain ⟨hx0, hx1⟩ := HWIN.out _ (List.getElem_mem hlt)
          have hbx2 := HXN.out _ rfl
          obtain ⟨x, hx⟩ : ∃ x : Nat, ws[k] = x := ⟨ws[k].toNat, by omega⟩
          rw [hx] at hcx hx0 hx1
          have htk := List.take_succ_eq_append_getElem hlt
          rw [hx] at htk
          have HTKW := Lib.hid htk
          have hmem : (x : Int) ∈ waysOf a (p.code[a]'HIN.out.la) := by
            have h : p.code[a]'HIN.out.la = xi := HXI.out
            rw [h, ← HWS.out, ← hx]
            exact List.getElem_mem hlt
          have hxl : x < l.length := by rw [HIN.out.len]; omega
          have hhe : v - tkOf (p.code[a]'HIN.out.la) + gvOf (p.code[a]'HIN.out.la) = hi := by
            have h : p.code[a]'HIN.out.la = xi := HXI.out
            rw [h, HTKE.out, HGVE.out, HHI.out]
          have HNEW := Lib.hid (fun h1 => HIN.out.new hmem hxl h1)
          have HSAME := Lib.hid (fun h1 => HIN.out.same hxl h1)
          have HBAD := Lib.hid (fun h1 h2 => HIN.out.bad hmem hxl h1 h2)
          rw [hhe, ← htk] at HNEW HSAME
          rw [hhe] at HBAD
          have hco := HBLK.out.get x hxl
          have hmany := HIN.out.many
          rw [← HN.out] at hmany
          clear htk hmem hhe hx
          by_cases e1 : l[x] = -1
          · have hfz := HBLK.out.fz x
            have hset := HBLK.out.set x hi
            have hbl := HBLK.out.lt
            have hbw2 := HBW.out.setCell (p := ⟨b, x, none⟩) hbb2 (.int .i64 hi)
            have hnat2 := HNAT.out.set (b' := b) (by omega) x (.int .i64 hi)
            have hgl := HNAT.out.1
            have hcnt := cnt_set (x := hi) hxl e1 (by omega)
            have hcp : 0 < cnt l := by omega
            have HIN2 := Lib.hid (HNEW.out e1)
            have hmk : ∀ w : World, (Instr.makeSlice 23 (.int .i64 ((n : Int) + 1)) (.int .i64 ((n : Int) + 1))).run Tryd.prog w = .ok (.slice (some ⟨w.heap.size, 0, none⟩) (n + 1) (n + 1)) (w.alloc (.cells (fl 0 (n + 1)).toArray 3)) := fun w => by
              rw [← made_fl]
              exact run_make_row' 23 3 (.int .i64 0) 8 Tryd.underlying23 Tryd.infoInt rfl .i64 .i64 (n + 1) (by omega) (by omega) w
            rw [e1] at hco
            have HBX : ∀ j, (wr.setCell ⟨b, x, none⟩ (.int .i64 hi)).cell? ⟨bx, j, none⟩ = wr.cell? ⟨bx, j, none⟩ := fun j => World.cell?_setCell_other _ _ _ _ (by simp only [ne_eq, Addr.mk.injEq, not_and]; intro h; simp only at hbx2; omega)
            have HBXH := Lib.hid HBX
            have HSET := Lib.hid hset
            have HBW2 := Lib.hid hbw2
            have HNAT2 := Lib.hid hnat2
            clear hset hbw2 hnat2 HBX HBAD HSAME HNEW HIN e1
            go_upto_region 21 with fail
            clear hmk hco hfz
            have hgn : (wr.setCell ⟨b, x, none⟩ (.int .i64 hi)).heap.size = wr.heap.size := World.size_setCell _ _ _
            have hal8 : Below (wr.setCell ⟨b, x, none⟩ (.int .i64 hi)).heap.size (wr.setCell ⟨b, x, none⟩ (.int .i64 hi)) ((wr.setCell ⟨b, x, none⟩ (.int .i64 hi)).alloc (.cells (fl 0 (n + 1)).toArray 3)) := (Below.refl _ _).alloc (Nat.le_refl _) _
            have HB8 := Lib.hid (HSET.out.below hal8)
            have HN8 := Lib.hid (HNAT2.out.below hal8)
            have HW8 := Lib.hid (HBW2.out.trans (hal8.mono HBW2.out.size))
            have hg8 : ((wr.setCell ⟨b, x, none⟩ (.int .i64 hi)).alloc (.cells (fl 0 (n + 1)).toArray 3)).heap[wr.heap.size]? = some (.cells (fl 0 (n + 1)).toArray 3 (0, 0)) := by
              rw [← hgn]
              exact heap_alloc_new _ _
            have hsz8 : wr.heap.size < ((wr.setCell ⟨b, x, none⟩ (.int .i64 hi)).alloc (.cells (fl 0 (n + 1)).toArray 3)).heap.size := by simp
            have HX8 := Lib.hid (HX.out.keep (w' := (wr.setCell ⟨b, x, none⟩ (.int .i64 hi)).alloc (.cells (fl 0 (n + 1)).toArray 3)) (by simp) (fun j => (hal8.cell (p := ⟨bx, j, none⟩) (by rw [hgn]; exact hbx)).trans (HBXH.out j)))
            have HG8 := Lib.hid hg8
            clear hal8 hg8 HSET HNAT2 HBW2 HBXH HNAT HBLK HX HBW hgn
            generalize (wr.setCell ⟨b, x, none⟩ (.int .i64 hi)).alloc (.cells (fl 0 (n + 1)).toArray 3) = w8 at *
            generalize hgnn : wr.heap.size = gn at *
            have HS := Lib.hid (fun (j : Nat) (u : Value) (h : (L.map natV)[j]? = some u) => show w8.cell? ((⟨gt, 0, none⟩ : Addr).add j) = some u by
              rw [Addr.add_lit, Nat.zero_add]
              have hj : j < L.length := by
                have := (List.getElem?_eq_some_iff.1 h).1
                simpa using this
              rw [HN8.out.2 j hj, ← h]
              simp [List.getElem?_eq_getElem hj, natV])
            have HL := Lib.hid (show 0 + (L.map natV).length ≤ (fl 0 (n + 1)).length by rw [fl_len (by omega), List.length_map, ← HN.out]; omega)
            have HM1 := Lib.hid (show (L.map natV).length = Nat.min n (n + 1) by rw [List.length_map, ← HN.out]; show n = min n (n + 1); omega)
            have H1 := Lib.hid (show ∀ u ∈ L.map natV, u.oneCell' = true by
              intro u hu
              obtain ⟨j, _, rfl⟩ := List.mem_map.1 hu
              rfl)
            obtain ⟨cs, hcs⟩ : ∃ cs, cs = L.map natV := ⟨_, rfl⟩
            rw [← hcs] at HS HL HM1 H1
            have HCS := Lib.hid hcs
            clear hcs
            go_wp2_with (with_reducible refine wpList_copy_splice rfl (.tmp 94) (.tmp 95) 23 23 rfl 3 Tryd.underlying23 Tryd.sizeInt (some ⟨gn, 0, none⟩) (some ⟨gt, 0, none⟩) (n + 1) (n + 1) n ct rfl rfl gn 0 (fl 0 (n + 1)) 3 HG8.out cs HM1.out (fun _ => ⟨rfl, _, rfl, HS.out⟩) HL.out H1.out gn w8 (Below.refl _ _) (Nat.le_refl _) ?_)
            intro w9 hg9 hb9
            have hg9' : w9.heap[gn]? = some (.cells (splice (fl 0 (n + 1)) 0 (L.map natV)).toArray 3 (0, 0)) := by
              rw [← HCS.out]
              exact hg9.out
            have hfz9 : w9.frozen? ⟨gn, n, none⟩ = false := by simp [World.frozen?, hg9']
            have HN10 := Lib.hid (natsAt_pushed (x := x) HN.out hg9')
            have hb10 : Below gn w8 (w9.setCell ⟨gn, n, none⟩ (.int .i64 (x : Int))) := hb9.setCell (p := ⟨gn, n, none⟩) (Nat.le_refl _) _
            have HB10 := Lib.hid (HB8.out.keep hb10 (by omega))
            have HW10 := Lib.hid (HW8.out.trans (hb10.mono (by omega)))
            have HX10 := Lib.hid (HX8.out.keep hb10.size (fun j => hb10.cell (p := ⟨bx, j, none⟩) hbx))
            have hlt9 : gn < w9.heap.size := (Array.getElem?_eq_some_iff.1 hg9').1
            have hc9 : w9.cell? ⟨gn, n, none⟩ = some (.int .i64 0) := by
              rw [Lib.cell_of_heap hg9']
              unfold splice fl
              rw [HN.out]
              simp
            clear hg9 hg9' hb9 hb10 HB8 HN8 HW8 HX8 HG8 HS HL HM1 H1 HCS
            go_wp2_with fail
            go_roundg g2
            case measure => omega
            case rel => exact ⟨k + 1, l.set x hi, L ++ [x], n + 1, gn, n + 1, rfl, by go_num, by omega, by omega, by omega, by omega, by omega, by omega, Lib.hid (by rw [List.length_append, List.length_singleton, ← HN.out]), HIN2, HB10, HN10, HW10, HX10⟩
          by_cases e2 : l[x] = hi
          · have HIN2 := Lib.hid (HSAME.out e2)
            have f1 : (hi == -1) = false := by simp; omega
            rw [e2] at hco
            clear HBAD HSAME HNEW HIN e1 e2
            go_wp2_with fail
            go_roundg g2
            case measure => omega
            case rel => exact ⟨k + 1, l, L, n, gt, ct, rfl, by go_num, by omega, by omega, hn, hct, hbg, hgm, HN, HIN2, HBLK, HNAT, HBW, HX⟩
          · have HB := Lib.hid (HBAD.out e1 e2)
            clear HBAD HSAME HNEW HIN
            generalize l[x] = y at *
            have f1 : (y == -1) = false := by simpa using e1
            have f2 : (y == hi) = false := by simpa using e2
            clear e1 e2
            go_wp2_with fail
            go_ret2
            exact ⟨.inr ⟨.inr HB.out, rfl⟩, HB2.out.trans (HBW.out.mono HB2.out.size)⟩
        · have hke : k = ws.length := by omega
          have hin := HIN.out
          rw [hke, List.take_length, HWS.out] at hin
          have hxi : p.code[a]'hac = xi := HXI.out
          rw [← hxi] at hin
          have HINV := Lib.hid (HIn.done hac hin)
          clear hin hxi HIN
          go_wp2_with fail
          go_roundg g
          case measure => omega
          case rel => exact ⟨l, L, n, gt, ct, rfl, hn, hct, hbg, hgm, HN, HINV, HBLK, HNAT, HBW⟩
end Go.Proofs.YtaanhkepimjelaaDoor
