/- The walk of dispatcherref05.Parse: a strict reading. -/
import Derived.Test.YtaanhkepimjelaaDoorCodeY
namespace Go.Proofs.YtaanhkepimjelaaDoor
open Go.RowKit Go.Sort
set_option linter.unusedVariables false
set_option linter.unusedSimpArgs false

theorem getD_map (LB : List ByteArray) (k : Nat) (hk : k < LB.length) : (LB.map (·.data.toList)).getD k [] = LB[k].data.toList := by simp [List.getD_eq_getElem?_getD, hk]
theorem own_some {w : World} {base : Nat} {e : TypeId} {size n c : Nat} {A : Option Addr} {xs : List Value} (h : w.ownsRow base e size (.slice A n c) n xs) (hn : 0 < n) : ∃ g, A = some ⟨g, 0, none⟩ := by
  obtain ⟨A', c', hv, _, _, h1, h2⟩ := own_shape h
  injection hv with hA
  subst hA
  cases A with
  | none => exact absurd (h2 rfl).1 (by omega)
  | some a =>
    obtain ⟨g, rfl, _⟩ := h1 a rfl
    exact ⟨g, rfl⟩
theorem itoa_inj {a b : Int} (ha : -9223372036854775808 ≤ a ∧ a ≤ 9223372036854775807) (hb : -9223372036854775808 ≤ b ∧ b ≤ 9223372036854775807) (h : Lib.itoa a = Lib.itoa b) : a = b := by
  have h1 := atoi_itoa a ha.1 ha.2
  rw [h, atoi_itoa b hb.1 hb.2] at h1
  injection h1 with h1
  exact h1.symm
theorem cell_heap9 {w : World} {b : Nat} {cs : Array Value} {t : TypeId} {fr : Nat × Nat} (h : w.heap[b]? = some (.cells cs t fr)) (j : Nat) (v : Value) (hv : cs[j]? = some v) : w.cell? ⟨b, j, none⟩ = some v := by
  rw [Lib.cell_of_heap h]
  exact hv
theorem lt_heap9 {w : World} {b : Nat} {o : Obj} (h : w.heap[b]? = some o) : b < w.heap.size := (Array.getElem?_eq_some_iff.1 h).1
theorem frozen_heap9 {w : World} {b : Nat} {cs : Array Value} {t : TypeId} (h : w.heap[b]? = some (.cells cs t (0, 0))) (j : Nat) : w.frozen? ⟨b, j, none⟩ = false := by
  simp [World.frozen?, h]
/-- Texts that are those of numbers. -/
theorem map_itoa {AR : List (List UInt8)} {ar : List Int} (h : AR = ar.map Lib.itoa) : AR.length = ar.length := by rw [h, List.length_map]

set_option maxHeartbeats 16000000 in
set_option maxRecDepth 100000 in
theorem rparse_any (s : ByteArray) (hs : s.size ≤ 100000) (w : World) :
    Calls Tryd.prog 22 #[.string s] w fun e w' => ∃ (q : Cp) (f : Int) (A B : Option Addr) (cA cB : Nat), e = .returned (.tuple #[.agg #[.slice A q.code.length cA, .int .i64 q.vars, .slice B q.arrays.length cB], .int .i64 f]) ∧ CpIn w' A cA B cB q ∧ POf s q f ∧ Below w.heap.size w w' := by
  obtain ⟨i1, hi1, hz01, hz11, hz21⟩ := info_parts Tryd.infoInt
  have H1 := Lib.hid (And.intro hi1 (And.intro hz01 (And.intro hz11 hz21)))
  clear hi1 hz01 hz11 hz21
  obtain ⟨i2, hi2, hz02, hz12, hz22⟩ := info_parts Tryd.infoInstr
  have H2 := Lib.hid (And.intro hi2 (And.intro hz02 (And.intro hz12 hz22)))
  clear hi2 hz02 hz12 hz22
  have hb1 : Below w.heap.size w (((w.alloc (.cells #[.slice none 0 0, .int .i64 0, .slice none 0 0] 25)).alloc (.cells #[.slice none 0 0, .int .i64 0, .slice none 0 0] 25)).alloc (.cells #[.slice none 0 0, .int .i64 0, .slice none 0 0] 25)) := (((Below.refl _ _).alloc (Nat.le_refl _) _).alloc (by simp) _).alloc (by simp; omega) _
  have hR1 : PgBlk (((w.alloc (.cells #[.slice none 0 0, .int .i64 0, .slice none 0 0] 25)).alloc (.cells #[.slice none 0 0, .int .i64 0, .slice none 0 0] 25)).alloc (.cells #[.slice none 0 0, .int .i64 0, .slice none 0 0] 25)) w.heap.size none 0 0 0 none 0 0 := (PgBlk.new.below ((Below.refl _ _).alloc (Nat.le_refl _) _)).below ((Below.refl _ _).alloc (Nat.le_refl _) _)
  have hP1 : PgBlk (((w.alloc (.cells #[.slice none 0 0, .int .i64 0, .slice none 0 0] 25)).alloc (.cells #[.slice none 0 0, .int .i64 0, .slice none 0 0] 25)).alloc (.cells #[.slice none 0 0, .int .i64 0, .slice none 0 0] 25)) (w.alloc (.cells #[.slice none 0 0, .int .i64 0, .slice none 0 0] 25)).heap.size none 0 0 0 none 0 0 := PgBlk.new.below ((Below.refl _ _).alloc (Nat.le_refl _) _)
  have hQ1 : PgBlk (((w.alloc (.cells #[.slice none 0 0, .int .i64 0, .slice none 0 0] 25)).alloc (.cells #[.slice none 0 0, .int .i64 0, .slice none 0 0] 25)).alloc (.cells #[.slice none 0 0, .int .i64 0, .slice none 0 0] 25)) ((w.alloc (.cells #[.slice none 0 0, .int .i64 0, .slice none 0 0] 25)).alloc (.cells #[.slice none 0 0, .int .i64 0, .slice none 0 0] 25)).heap.size none 0 0 0 none 0 0 := PgBlk.new
  have HB := Lib.hid hb1
  clear hb1
  go_enter Tryd.func22, Tryd.ntmps22
  go_upto_region 3 with fail
  generalize ((w.alloc (.cells #[.slice none 0 0, .int .i64 0, .slice none 0 0] 25)).alloc (.cells #[.slice none 0 0, .int .i64 0, .slice none 0 0] 25)).alloc (.cells #[.slice none 0 0, .int .i64 0, .slice none 0 0] 25) = w1 at *
  have hsz : (w.alloc (.cells #[.slice none 0 0, .int .i64 0, .slice none 0 0] 25)).heap.size = w.heap.size + 1 := by simp
  have hsz2 : ((w.alloc (.cells #[.slice none 0 0, .int .i64 0, .slice none 0 0] 25)).alloc (.cells #[.slice none 0 0, .int .i64 0, .slice none 0 0] 25)).heap.size = w.heap.size + 2 := by simp
  rw [hsz] at hP1
  rw [hsz2] at hQ1
  have HR := Lib.hid hR1
  have HP := Lib.hid hP1
  have HQ := Lib.hid hQ1
  clear hR1 hP1 hQ1 hsz hsz2
  have hsp := split_any 10 s hs w1
  rw [show (((10 : UInt8).toNat : Nat) : Int) = 10 from rfl] at hsp
  have HSP := Lib.hid hsp
  clear hsp
  go_wp2_with fail
  refine HSP.out.mono ?_
  rintro e w2 ⟨AL, cL, LB, rfl, his, hol, hb2⟩
  have hls : ∀ x ∈ LB, x.size ≤ 100000 := fun x hx => by
    have h := splitC_len 10 s.data.toList x.data.toList (by rw [← his]; exact List.mem_map_of_mem hx)
    rw [← Lib.size_eq, ← Lib.size_eq] at h
    omega
  have hlb : LB.length ≤ 100001 := by
    have h := splitC_count 10 s.data.toList
    rw [← his, List.length_map, ← Lib.size_eq] at h
    omega
  have HLS := Lib.hid hls
  have HIS := Lib.hid his
  have HOL2 := Lib.hid (hol.mono HB.out.size)
  have HR2 := Lib.hid (HR.out.below hb2)
  have HP2 := Lib.hid (HP.out.below hb2)
  have HQ2 := Lib.hid (HQ.out.below hb2)
  have HB2 := Lib.hid (HB.out.trans (hb2.mono HB.out.size))
  clear hls his hol hb2 HSP HR HP HQ HB
  by_cases h4 : LB.length < 4
  case pos =>
    have HNO := Lib.hid (show ∀ q' : Cp, q'.May → (∀ i ∈ q'.code, i.Ok) → (∀ n ∈ q'.arrays, -9223372036854775808 ≤ n ∧ n ≤ 9223372036854775807) → (⟨(cpText q').toArray⟩ : ByteArray) ≠ s from fun q' hq hk ha e => by
      obtain ⟨g1, g2, g3, g4, g5, g6, g7⟩ := lines_strict hq hk ha e HIS.out
      rw [List.length_map] at g1
      omega)
    have HX := Lib.hid (fun (y0 y1 y2 : Value) => ((HB2.out.setCell (p := ⟨w.heap.size, 0, none⟩) (Nat.le_refl _) y0).setCell (p := ⟨w.heap.size, 1, none⟩) (Nat.le_refl _) y1).setCell (p := ⟨w.heap.size, 2, none⟩) (Nat.le_refl _) y2)
    have r0 := HR2.out.at.g0
    have r1 := HR2.out.at.g1
    have r2 := HR2.out.at.g2
    have f0 := HR2.out.fz 0
    have f1 := HR2.out.fz 1
    have f2 := HR2.out.fz 2
    have rl := HR2.out.lt
    have q0 := HQ2.out.at.g0
    have q1 := HQ2.out.at.g1
    have q2 := HQ2.out.at.g2
    go_wp2_with fail
    have hZ := ((HR2.out.set0 none 0 0).set1 0).set2 none 0 0
    have x0 := hZ.at.g0
    have x1 := hZ.at.g1
    have x2 := hZ.at.g2
    refine bodyPost_ret (v := .tuple #[.agg #[.slice none 0 0, .int .i64 0, .slice none 0 0], .int .i64 50]) (by simp [results, Tryd.results22, go_sem, x0, x1, x2]) rfl ?_
    exact ⟨⟨[], 0, []⟩, 50, none, none, 0, 0, rfl, cpIn_empty _, .inr ⟨HNO.out, rfl, rfl⟩, HX.out _ _ _⟩
  obtain ⟨N, hN, hN3⟩ : ∃ N, LB.length = N + 1 ∧ 3 ≤ N := ⟨LB.length - 1, by omega, by omega⟩
  have hNl : N < LB.length := by omega
  obtain ⟨bL, rfl⟩ := own_some HOL2.out (by omega)
  have sN := HOL2.out.cellAt N (show N < LB.length * 1 by omega)
  simp only [List.getElem?_map, List.getElem?_eq_getElem hNl, Option.map_some] at sN
  have HLAST := Lib.hid (getD_map LB N hNl)
  generalize LB[N] = xN at *
  have hwN : IntKind.i64.wrap (((N + 1 : Nat) : Int) - 1) = (N : Int) := (IntWalk.i64_in _ (by omega)).trans (by omega)
  have HNN := Lib.hid hN
  rw [hN] at HOL2 ⊢
  clear hN
  cases dN : (xN.toList == [])
  case false =>
    have HNO := Lib.hid (show ∀ q' : Cp, q'.May → (∀ i ∈ q'.code, i.Ok) → (∀ n ∈ q'.arrays, -9223372036854775808 ≤ n ∧ n ≤ 9223372036854775807) → (⟨(cpText q').toArray⟩ : ByteArray) ≠ s from fun q' hq hk ha e => by
      obtain ⟨g1, g2, g3, g4, g5, g6, g7⟩ := lines_strict hq hk ha e HIS.out
      rw [List.length_map, HNN.out, show N + 1 - 1 = N from rfl, HLAST.out] at g3
      rw [ByteArray.toList_eq, g3] at dN
      simp at dN)
    have HX := Lib.hid (fun (y0 y1 y2 : Value) => ((HB2.out.setCell (p := ⟨w.heap.size, 0, none⟩) (Nat.le_refl _) y0).setCell (p := ⟨w.heap.size, 1, none⟩) (Nat.le_refl _) y1).setCell (p := ⟨w.heap.size, 2, none⟩) (Nat.le_refl _) y2)
    have r0 := HR2.out.at.g0
    have r1 := HR2.out.at.g1
    have r2 := HR2.out.at.g2
    have f0 := HR2.out.fz 0
    have f1 := HR2.out.fz 1
    have f2 := HR2.out.fz 2
    have rl := HR2.out.lt
    have q0 := HQ2.out.at.g0
    have q1 := HQ2.out.at.g1
    have q2 := HQ2.out.at.g2
    go_wp2_with fail
    have hZ := ((HR2.out.set0 none 0 0).set1 0).set2 none 0 0
    have x0 := hZ.at.g0
    have x1 := hZ.at.g1
    have x2 := hZ.at.g2
    refine bodyPost_ret (v := .tuple #[.agg #[.slice none 0 0, .int .i64 0, .slice none 0 0], .int .i64 50]) (by simp [results, Tryd.results22, go_sem, x0, x1, x2]) rfl ?_
    exact ⟨⟨[], 0, []⟩, 50, none, none, 0, 0, rfl, cpIn_empty _, .inr ⟨HNO.out, rfl, rfl⟩, HX.out _ _ _⟩
  have HL0 := Lib.hid (show xN.data.toList = [] by
    have h := beq_iff_eq.1 dN
    rw [ByteArray.toList_eq] at h
    exact h)
  have h0l : 0 < LB.length := by have := HNN.out; omega
  have h1l : 1 < LB.length := by have := HNN.out; omega
  have s0 := HOL2.out.cellAt 0 (show 0 < (N + 1) * 1 by omega)
  have s1 := HOL2.out.cellAt 1 (show 1 < (N + 1) * 1 by omega)
  simp only [List.getElem?_map, List.getElem?_eq_getElem h0l, List.getElem?_eq_getElem h1l, Option.map_some] at s0 s1
  have HG0 := Lib.hid (getD_map LB 0 h0l)
  have HG1 := Lib.hid (getD_map LB 1 h1l)
  have hx0 := HLS.out LB[0] (List.getElem_mem _)
  have hx1 := HLS.out LB[1] (List.getElem_mem _)
  generalize LB[0] = x0 at *
  generalize LB[1] = x1 at *
  have h32 : (((32 : UInt8).toNat : Nat) : Int) = 32 := rfl
  have hsv := split_any 32 x0 hx0 w2
  rw [h32] at hsv
  have HSV := Lib.hid hsv
  clear hsv
  go_wp2_with fail
  refine HSV.out.mono ?_
  rintro e w3 ⟨AV, cV, VB, rfl, hvs, hov, hb3⟩
  have HVZ := Lib.hid (show ∀ x ∈ VB, x.size ≤ 100000 from fun x hx => by
    have h := splitC_len 32 x0.data.toList x.data.toList (by rw [← hvs]; exact List.mem_map_of_mem hx)
    rw [← Lib.size_eq, ← Lib.size_eq] at h
    omega)
  have hvb : VB.length ≤ 100001 := by
    have h := splitC_count 32 x0.data.toList
    rw [← hvs, List.length_map, ← Lib.size_eq] at h
    omega
  have HVS := Lib.hid hvs
  have HOV3 := Lib.hid (hov.mono HB2.out.size)
  have HOL3 := Lib.hid (own_below5 HOL2.out hb3)
  have HR3 := Lib.hid (HR2.out.below hb3)
  have HP3 := Lib.hid (HP2.out.below hb3)
  have HQ3 := Lib.hid (HQ2.out.below hb3)
  have HB3 := Lib.hid (HB2.out.trans (hb3.mono HB2.out.size))
  have s1 := cell_later hb3 s1
  clear s0 sN dN hvs hov hb3 HSV HOL2 HR2 HP2 HQ2 HB2 hx0
  have hsa := split_any 32 x1 hx1 w3
  rw [h32] at hsa
  have HSA := Lib.hid hsa
  clear hsa
  go_wp2_with fail
  refine HSA.out.mono ?_
  rintro e w4 ⟨AA, cAA, AB, rfl, has, hoa, hb4⟩
  have HAZ := Lib.hid (show ∀ x ∈ AB, x.size ≤ 100000 from fun x hx => by
    have h := splitC_len 32 x1.data.toList x.data.toList (by rw [← has]; exact List.mem_map_of_mem hx)
    rw [← Lib.size_eq, ← Lib.size_eq] at h
    omega)
  have hab : AB.length ≤ 100001 := by
    have h := splitC_count 32 x1.data.toList
    rw [← has, List.length_map, ← Lib.size_eq] at h
    omega
  have hab0 : 0 < AB.length := by
    have h := splitC_ne 32 x1.data.toList
    rw [← has] at h
    cases AB with
    | nil => exact absurd rfl h
    | cons a r => simp
  have HAS := Lib.hid has
  have HOA4 := Lib.hid (hoa.mono HB3.out.size)
  have HOV4 := Lib.hid (own_below5 HOV3.out hb4)
  have HOL4 := Lib.hid (own_below5 HOL3.out hb4)
  have HR4 := Lib.hid (HR3.out.below hb4)
  have HP4 := Lib.hid (HP3.out.below hb4)
  have HQ4 := Lib.hid (HQ3.out.below hb4)
  have HB4 := Lib.hid (HB3.out.trans (hb4.mono HB3.out.size))
  clear s1 has hoa hb4 HSA HOV3 HOL3 HR3 HP3 HQ3 HB3 hx1
  by_cases hV : VB.length = 2
  case neg =>
    have hv2 : ((VB.length : Int) == 2) = false := by rw [beq_eq_false_iff_ne]; omega
    have HNO := Lib.hid (show ∀ q' : Cp, q'.May → (∀ i ∈ q'.code, i.Ok) → (∀ n ∈ q'.arrays, -9223372036854775808 ≤ n ∧ n ≤ 9223372036854775807) → (⟨(cpText q').toArray⟩ : ByteArray) ≠ s from fun q' hq hk ha e => by
      obtain ⟨g1, g2, g3, g4, g5, g6, g7⟩ := lines_strict hq hk ha e HIS.out
      rw [HG0.out, ← HVS.out] at g4
      have h := congrArg List.length g4
      rw [List.length_map] at h
      exact hV h)
    have HX := Lib.hid (fun (y0 y1 y2 : Value) => ((HB4.out.setCell (p := ⟨w.heap.size, 0, none⟩) (Nat.le_refl _) y0).setCell (p := ⟨w.heap.size, 1, none⟩) (Nat.le_refl _) y1).setCell (p := ⟨w.heap.size, 2, none⟩) (Nat.le_refl _) y2)
    have r0 := HR4.out.at.g0
    have r1 := HR4.out.at.g1
    have r2 := HR4.out.at.g2
    have f0 := HR4.out.fz 0
    have f1 := HR4.out.fz 1
    have f2 := HR4.out.fz 2
    have rl := HR4.out.lt
    have q0 := HQ4.out.at.g0
    have q1 := HQ4.out.at.g1
    have q2 := HQ4.out.at.g2
    go_wp2_with fail
    have hZ := ((HR4.out.set0 none 0 0).set1 0).set2 none 0 0
    have x0 := hZ.at.g0
    have x1 := hZ.at.g1
    have x2 := hZ.at.g2
    refine bodyPost_ret (v := .tuple #[.agg #[.slice none 0 0, .int .i64 0, .slice none 0 0], .int .i64 50]) (by simp [results, Tryd.results22, go_sem, x0, x1, x2]) rfl ?_
    exact ⟨⟨[], 0, []⟩, 50, none, none, 0, 0, rfl, cpIn_empty _, .inr ⟨HNO.out, rfl, rfl⟩, HX.out _ _ _⟩
  obtain ⟨v0, v1, hVB⟩ : ∃ v0 v1, VB = [v0, v1] := by
    match VB, hV with
    | [a, b], _ => exact ⟨a, b, rfl⟩
  obtain ⟨M, hM⟩ : ∃ M, AB.length = M + 1 := ⟨AB.length - 1, by omega⟩
  obtain ⟨a0, AR, hAB⟩ : ∃ a0 AR, AB = a0 :: AR := by
    cases AB with
    | nil => simp at hab0
    | cons a r => exact ⟨a, r, rfl⟩
  obtain ⟨bA, rfl⟩ := own_some HOA4.out hab0
  obtain ⟨bV, rfl⟩ := own_some HOV4.out (by omega)
  have HMM := Lib.hid hM
  have HVV := Lib.hid hVB
  have HAA := Lib.hid hAB
  have hv1 := HVZ.out v1 (by rw [hVB]; simp)
  rw [hV] at HOV4 ⊢
  rw [hM] at HOA4 ⊢
  have c0 := HOV4.out.cellAt 0 (show 0 < 2 * 1 by omega)
  have c1 := HOV4.out.cellAt 1 (show 1 < 2 * 1 by omega)
  have d0 := HOA4.out.cellAt 0 (show 0 < (M + 1) * 1 by omega)
  rw [hVB] at c0 c1
  rw [hAB] at d0
  simp only [List.map_cons, List.getElem?_cons_zero, List.getElem?_cons_succ] at c0 c1 d0
  have hMb : M ≤ 100000 := by omega
  clear hV hM hVB hAB hab hab0 hvb
  cases dt0 : (v0.toList == [118, 97, 114, 115])
  case false =>
    have HNO := Lib.hid (show ∀ q' : Cp, q'.May → (∀ i ∈ q'.code, i.Ok) → (∀ n ∈ q'.arrays, -9223372036854775808 ≤ n ∧ n ≤ 9223372036854775807) → (⟨(cpText q').toArray⟩ : ByteArray) ≠ s from fun q' hq hk ha e => by
      obtain ⟨g1, g2, g3, g4, g5, g6, g7⟩ := lines_strict hq hk ha e HIS.out
      rw [HG0.out, ← HVS.out, HVV.out] at g4
      simp only [List.map_cons, List.map_nil, List.cons.injEq] at g4
      rw [ByteArray.toList_eq, g4.1] at dt0
      exact absurd dt0 (by decide))
    have HX := Lib.hid (fun (y0 y1 y2 : Value) => ((HB4.out.setCell (p := ⟨w.heap.size, 0, none⟩) (Nat.le_refl _) y0).setCell (p := ⟨w.heap.size, 1, none⟩) (Nat.le_refl _) y1).setCell (p := ⟨w.heap.size, 2, none⟩) (Nat.le_refl _) y2)
    have r0 := HR4.out.at.g0
    have r1 := HR4.out.at.g1
    have r2 := HR4.out.at.g2
    have f0 := HR4.out.fz 0
    have f1 := HR4.out.fz 1
    have f2 := HR4.out.fz 2
    have rl := HR4.out.lt
    have q0 := HQ4.out.at.g0
    have q1 := HQ4.out.at.g1
    have q2 := HQ4.out.at.g2
    go_wp2_with fail
    have hZ := ((HR4.out.set0 none 0 0).set1 0).set2 none 0 0
    have x0 := hZ.at.g0
    have x1 := hZ.at.g1
    have x2 := hZ.at.g2
    refine bodyPost_ret (v := .tuple #[.agg #[.slice none 0 0, .int .i64 0, .slice none 0 0], .int .i64 50]) (by simp [results, Tryd.results22, go_sem, x0, x1, x2]) rfl ?_
    exact ⟨⟨[], 0, []⟩, 50, none, none, 0, 0, rfl, cpIn_empty _, .inr ⟨HNO.out, rfl, rfl⟩, HX.out _ _ _⟩
  cases dt1 : (a0.toList == [97, 114, 114, 97, 121, 115])
  case false =>
    have HNO := Lib.hid (show ∀ q' : Cp, q'.May → (∀ i ∈ q'.code, i.Ok) → (∀ n ∈ q'.arrays, -9223372036854775808 ≤ n ∧ n ≤ 9223372036854775807) → (⟨(cpText q').toArray⟩ : ByteArray) ≠ s from fun q' hq hk ha e => by
      obtain ⟨g1, g2, g3, g4, g5, g6, g7⟩ := lines_strict hq hk ha e HIS.out
      rw [HG1.out, ← HAS.out, HAA.out] at g6
      simp only [List.map_cons, List.cons.injEq] at g6
      rw [ByteArray.toList_eq, g6.1] at dt1
      exact absurd dt1 (by decide))
    have HX := Lib.hid (fun (y0 y1 y2 : Value) => ((HB4.out.setCell (p := ⟨w.heap.size, 0, none⟩) (Nat.le_refl _) y0).setCell (p := ⟨w.heap.size, 1, none⟩) (Nat.le_refl _) y1).setCell (p := ⟨w.heap.size, 2, none⟩) (Nat.le_refl _) y2)
    have r0 := HR4.out.at.g0
    have r1 := HR4.out.at.g1
    have r2 := HR4.out.at.g2
    have f0 := HR4.out.fz 0
    have f1 := HR4.out.fz 1
    have f2 := HR4.out.fz 2
    have rl := HR4.out.lt
    have q0 := HQ4.out.at.g0
    have q1 := HQ4.out.at.g1
    have q2 := HQ4.out.at.g2
    go_wp2_with fail
    have hZ := ((HR4.out.set0 none 0 0).set1 0).set2 none 0 0
    have x0 := hZ.at.g0
    have x1 := hZ.at.g1
    have x2 := hZ.at.g2
    refine bodyPost_ret (v := .tuple #[.agg #[.slice none 0 0, .int .i64 0, .slice none 0 0], .int .i64 50]) (by simp [results, Tryd.results22, go_sem, x0, x1, x2]) rfl ?_
    exact ⟨⟨[], 0, []⟩, 50, none, none, 0, 0, rfl, cpIn_empty _, .inr ⟨HNO.out, rfl, rfl⟩, HX.out _ _ _⟩
  have HV0 := Lib.hid (show v0.data.toList = [118, 97, 114, 115] by
    have h := beq_iff_eq.1 dt0
    rw [ByteArray.toList_eq] at h
    exact h)
  have HA0 := Lib.hid (show a0.data.toList = [97, 114, 114, 97, 121, 115] by
    have h := beq_iff_eq.1 dt1
    rw [ByteArray.toList_eq] at h
    exact h)
  go_wp2_with fail
  refine (number5_any v1 hv1 w4).mono ?_
  rintro e w5 ⟨n, b, rfl, hn, hb5⟩
  have HNU := Lib.hid hn
  have HOA5 := Lib.hid (own_below5 HOA4.out hb5)
  have HOL5 := Lib.hid (own_below5 HOL4.out hb5)
  have HR5 := Lib.hid (HR4.out.below hb5)
  have HP5 := Lib.hid (HP4.out.below hb5)
  have HQ5 := Lib.hid (HQ4.out.below hb5)
  have HB5 := Lib.hid (HB4.out.trans (hb5.mono HB4.out.size))
  have hnr := hn.1
  clear c0 c1 d0 dt0 dt1 hn hb5 HOV4 HOA4 HOL4 HR4 HP4 HQ4 HB4
  cases b
  case false =>
    have HNO := Lib.hid (show ∀ q' : Cp, q'.May → (∀ i ∈ q'.code, i.Ok) → (∀ n ∈ q'.arrays, -9223372036854775808 ≤ n ∧ n ≤ 9223372036854775807) → (⟨(cpText q').toArray⟩ : ByteArray) ≠ s from fun q' hq hk ha e => by
      obtain ⟨g1, g2, g3, g4, g5, g6, g7⟩ := lines_strict hq hk ha e HIS.out
      rw [HG0.out, ← HVS.out, HVV.out] at g4
      simp only [List.map_cons, List.map_nil, List.cons.injEq] at g4
      exact HNU.out.2.2 rfl _ (by rw [g4.2.1]; exact g5))
    have HX := Lib.hid (fun (y0 y1 y2 : Value) => ((HB5.out.setCell (p := ⟨w.heap.size, 0, none⟩) (Nat.le_refl _) y0).setCell (p := ⟨w.heap.size, 1, none⟩) (Nat.le_refl _) y1).setCell (p := ⟨w.heap.size, 2, none⟩) (Nat.le_refl _) y2)
    have r0 := HR5.out.at.g0
    have r1 := HR5.out.at.g1
    have r2 := HR5.out.at.g2
    have f0 := HR5.out.fz 0
    have f1 := HR5.out.fz 1
    have f2 := HR5.out.fz 2
    have rl := HR5.out.lt
    have q0 := HQ5.out.at.g0
    have q1 := HQ5.out.at.g1
    have q2 := HQ5.out.at.g2
    go_wp2_with fail
    have hZ := ((HR5.out.set0 none 0 0).set1 0).set2 none 0 0
    have x0 := hZ.at.g0
    have x1 := hZ.at.g1
    have x2 := hZ.at.g2
    refine bodyPost_ret (v := .tuple #[.agg #[.slice none 0 0, .int .i64 0, .slice none 0 0], .int .i64 50]) (by simp [results, Tryd.results22, go_sem, x0, x1, x2]) rfl ?_
    exact ⟨⟨[], 0, []⟩, 50, none, none, 0, 0, rfl, cpIn_empty _, .inr ⟨HNO.out, rfl, rfl⟩, HX.out _ _ _⟩
  have HN1 := Lib.hid (HNU.out.2.1 rfl)
  have p0 := HP5.out.at.g0
  have p1 := HP5.out.at.g1
  have f1 := HP5.out.fz 1
  have pl := HP5.out.lt
  go_upto_region 14 with fail
  clear p0 p1 f1 pl HNU
  have HP6 := Lib.hid (HP5.out.set1 n)
  have HR6 := Lib.hid (HR5.out.other (show w.heap.size + 1 ≠ w.heap.size by omega) 1 (.int .i64 n))
  have HQ6 := Lib.hid (HQ5.out.other (show w.heap.size + 1 ≠ w.heap.size + 2 by omega) 1 (.int .i64 n))
  have HOL6 := Lib.hid (ownsRow_setCell_other HOL5.out (a := ⟨w.heap.size + 1, 1, none⟩) (own_ne_blk HOL5.out HP5.out (by decide)) (.int .i64 n))
  have HOA6 := Lib.hid (ownsRow_setCell_other HOA5.out (a := ⟨w.heap.size + 1, 1, none⟩) (own_ne_blk HOA5.out HP5.out (by decide)) (.int .i64 n))
  have HB6 := Lib.hid (HB5.out.setCell (p := ⟨w.heap.size + 1, 1, none⟩) (Nat.le_succ _) (.int .i64 n))
  clear HP5 HR5 HQ5 HOL5 HOA5 HB5
  generalize w5.setCell ⟨w.heap.size + 1, 1, none⟩ (.int .i64 n) = w6 at *
  go_wp2_with fail
  go_loopg [11] (M + 1) (fun g i wx => ∃ (k j cB : Nat) (Bv : Option Addr) (ar : List Int), i = .int .i64 k ∧ k ≤ j + 1 ∧ j + 1 ≤ k ∧ j ≤ M ∧ M - j < g ∧ Hid (j = ar.length) ∧ Hid (((AB.map (·.data.toList)).drop 1).take j = ar.map Lib.itoa) ∧ Hid (∀ n ∈ ar, -9223372036854775808 ≤ n ∧ n ≤ 9223372036854775807) ∧ Hid (wx.ownsRow w.heap.size 3 1 (.slice Bv j cB) j (ar.map (Value.int .i64))) ∧ Hid (PgBlk wx (w.heap.size + 1) none 0 0 n Bv j cB) ∧ Hid (PgBlk wx w.heap.size none 0 0 0 none 0 0) ∧ Hid (PgBlk wx (w.heap.size + 2) none 0 0 0 none 0 0) ∧ Hid (wx.ownsRow w.heap.size 9 1 (.slice (some ⟨bL, 0, none⟩) (N + 1) cL) (N + 1) (LB.map Value.string)) ∧ Hid (wx.ownsRow w.heap.size 9 1 (.slice (some ⟨bA, 0, none⟩) (M + 1) cAA) (M + 1) (AB.map Value.string)) ∧ Hid (Below w.heap.size w wx))
  case atStart => exact ⟨1, 0, 0, none, [], rfl, by omega, by omega, by omega, by omega, rfl, rfl, (fun n hn => by cases hn), World.ownsRow_nil _ _ _ _, HP6, HR6, HQ6, HOL6, HOA6, HB6⟩
  case round =>
    clear HP6 HR6 HQ6 HOL6 HOA6 HB6
    obtain ⟨k, j, cB, Bv, ar, rfl, hkj, hkj2, hj, hg, HN, HAR, HAK, HO, HP, HR, HQ, HOL, HOA, HB⟩ := hrel
    obtain ⟨g, rfl⟩ : ∃ g, gk = g + 1 := ⟨gk - 1, by omega⟩
    by_cases hlt : j < M
    · have hkA : k < AB.length := by rw [HMM.out]; omega
      have c0 := HOA.out.cellAt k (show k < (M + 1) * 1 by omega)
      simp only [List.getElem?_map, List.getElem?_eq_getElem hkA, Option.map_some] at c0
      have hy := HAZ.out AB[k] (List.getElem_mem hkA)
      have HYK := Lib.hid (show (AB.map (·.data.toList))[k]? = some AB[k].data.toList by simp [hkA])
      have HYK2 := Lib.hid (show ∀ (h : k < (AB.map (·.data.toList)).length), (AB.map (·.data.toList))[k] = AB[k].data.toList from fun h => by simp)
      generalize AB[k] = y at *
      go_wp2_with fail
      refine (number5_any y hy wr).mono ?_
      rintro e w7 ⟨z, b, rfl, hz, hb7⟩
      have HNU := Lib.hid hz
      have HO7 := Lib.hid (own_below5 HO.out hb7)
      have HOL7 := Lib.hid (own_below5 HOL.out hb7)
      have HOA7 := Lib.hid (own_below5 HOA.out hb7)
      have HR7 := Lib.hid (HR.out.below hb7)
      have HP7 := Lib.hid (HP.out.below hb7)
      have HQ7 := Lib.hid (HQ.out.below hb7)
      have HB7 := Lib.hid (HB.out.trans (hb7.mono HB.out.size))
      have hzr := hz.1
      clear c0 hz hb7 HO HOL HOA HR HP HQ HB hy
      cases b
      case false =>
        have HNO := Lib.hid (show ∀ q' : Cp, q'.May → (∀ i ∈ q'.code, i.Ok) → (∀ n ∈ q'.arrays, -9223372036854775808 ≤ n ∧ n ≤ 9223372036854775807) → (⟨(cpText q').toArray⟩ : ByteArray) ≠ s from fun q' hq hk ha e => by
          obtain ⟨g1, g2, g3, g4, g5, g6, g7⟩ := lines_strict hq hk ha e HIS.out
          rw [HG1.out, ← HAS.out] at g6
          have hy := HYK.out
          rw [g6, show k = j + 1 by omega, List.getElem?_cons_succ, List.getElem?_map] at hy
          obtain ⟨u, hu1, hu2⟩ := Option.map_eq_some_iff.1 hy
          exact HNU.out.2.2 rfl u ⟨ha u (List.mem_of_getElem? hu1), hu2⟩)
        have HX := Lib.hid (fun (y0 y1 y2 : Value) => ((HB7.out.setCell (p := ⟨w.heap.size, 0, none⟩) (Nat.le_refl _) y0).setCell (p := ⟨w.heap.size, 1, none⟩) (Nat.le_refl _) y1).setCell (p := ⟨w.heap.size, 2, none⟩) (Nat.le_refl _) y2)
        have r0 := HR7.out.at.g0
        have r1 := HR7.out.at.g1
        have r2 := HR7.out.at.g2
        have f0 := HR7.out.fz 0
        have f1 := HR7.out.fz 1
        have f2 := HR7.out.fz 2
        have rl := HR7.out.lt
        have q0 := HQ7.out.at.g0
        have q1 := HQ7.out.at.g1
        have q2 := HQ7.out.at.g2
        go_wp2_with fail
        have hZ := ((HR7.out.set0 none 0 0).set1 0).set2 none 0 0
        have x0 := hZ.at.g0
        have x1 := hZ.at.g1
        have x2 := hZ.at.g2
        refine bodyPost_ret (v := .tuple #[.agg #[.slice none 0 0, .int .i64 0, .slice none 0 0], .int .i64 50]) (by simp [results, Tryd.results22, go_sem, x0, x1, x2]) rfl ?_
        exact ⟨⟨[], 0, []⟩, 50, none, none, 0, 0, rfl, cpIn_empty _, .inr ⟨HNO.out, rfl, rfl⟩, HX.out _ _ _⟩
      have HZ1 := Lib.hid (HNU.out.2.1 rfl)
      have hae : Below w7.heap.size w7 (w7.alloc (.cells #[.int .i64 z] 3)) := (Below.refl _ _).alloc (Nat.le_refl _) _
      have HO8 := Lib.hid (HO7.out.alloc (.cells #[.int .i64 z] 3))
      have HOL8 := Lib.hid (HOL7.out.alloc (.cells #[.int .i64 z] 3))
      have HOA8 := Lib.hid (HOA7.out.alloc (.cells #[.int .i64 z] 3))
      have HP8 := Lib.hid (HP7.out.below hae)
      have HR8 := Lib.hid (HR7.out.below hae)
      have HQ8 := Lib.hid (HQ7.out.below hae)
      have HB8 := Lib.hid (HB7.out.alloc HB7.out.size (.cells #[.int .i64 z] 3))
      have HNEWS := Lib.hid (World.news_of_block (w := w7.alloc (.cells #[.int .i64 z] 3)) (B := w7.heap.size) (cs := #[.int .i64 z]) (t := 3) (fr := (0, 0)) (heap_alloc_new _ _))
      have HONE := Lib.hid (show ∀ y ∈ [Value.int .i64 z], y.oneCell' = true by simp [Value.oneCell'])
      have H63 := Lib.hid (show j + 1 ≤ maxLen by unfold maxLen; omega)
      have HBY := Lib.hid (show (j + 1) * 8 ≤ 140737488355328 by omega)
      have HBASE := Lib.hid HB8.out.size
      have p2 := HP7.out.at.g2
      clear hae HNU HYK
      go_wp2_with (at_builtin; refine wpList_append_lies _ rfl (.tmp 89) (.tmp 91) 23 rfl w.heap.size 3 i1 _ 1 8 Tryd.underlying23 H1.out.1 H1.out.2.1 H1.out.2.2.1 H1.out.2.2.2 rfl (by decide) (.slice Bv j cB) j _ rfl HO8.out ⟨w7.heap.size, 0, none⟩ 1 1 [Value.int .i64 z] rfl rfl HNEWS.out HONE.out (by decide) H63.out HBY.out HBASE.out _ rfl ?_)
      intro g3 cap w8 hown hgrow _ _
      have hp8 : PgBlk w8 (w.heap.size + 1) none 0 0 n Bv j cB := (hgrow.block _ HP8.out.lt (fun e => own_ne_blk HO8.out HP8.out (by decide) e.symm)).trans HP8.out
      have hr8 : PgBlk w8 w.heap.size none 0 0 0 none 0 0 := (hgrow.block _ HR8.out.lt (fun e => own_ne_blk HO8.out HR8.out (by decide) e.symm)).trans HR8.out
      have hq8 : PgBlk w8 (w.heap.size + 2) none 0 0 0 none 0 0 := (hgrow.block _ HQ8.out.lt (fun e => own_ne_blk HO8.out HQ8.out (by decide) e.symm)).trans HQ8.out
      have hol8 := HOL8.out.kept hgrow (own_ne2 HOL8.out HO8.out (by decide))
      have hoa8 := HOA8.out.kept hgrow (own_ne2 HOA8.out HO8.out (by decide))
      have hb8 := below_grown5 HB8.out hgrow HBASE.out (fun g hg => (HO8.out.lt g hg).1)
      have HP9 := Lib.hid (hp8.set2 (some ⟨g3, 0, none⟩) (j + 1) cap)
      have HR9 := Lib.hid (hr8.other (show w.heap.size + 1 ≠ w.heap.size by omega) 2 (.slice (some ⟨g3, 0, none⟩) (j + 1) cap))
      have HQ9 := Lib.hid (hq8.other (show w.heap.size + 1 ≠ w.heap.size + 2 by omega) 2 (.slice (some ⟨g3, 0, none⟩) (j + 1) cap))
      have HO9 := Lib.hid (ownsRow_setCell_other hown (a := ⟨w.heap.size + 1, 2, none⟩) (own_ne_blk hown hp8 (by decide)) (.slice (some ⟨g3, 0, none⟩) (j + 1) cap))
      have HOL9 := Lib.hid (ownsRow_setCell_other hol8 (a := ⟨w.heap.size + 1, 2, none⟩) (own_ne_blk hol8 hp8 (by decide)) (.slice (some ⟨g3, 0, none⟩) (j + 1) cap))
      have HOA9 := Lib.hid (ownsRow_setCell_other hoa8 (a := ⟨w.heap.size + 1, 2, none⟩) (own_ne_blk hoa8 hp8 (by decide)) (.slice (some ⟨g3, 0, none⟩) (j + 1) cap))
      have HB9 := Lib.hid (hb8.setCell (p := ⟨w.heap.size + 1, 2, none⟩) (Nat.le_succ _) (.slice (some ⟨g3, 0, none⟩) (j + 1) cap))
      have HAR9 := Lib.hid (show ((AB.map (·.data.toList)).drop 1).take (j + 1) = (ar ++ [z]).map Lib.itoa by
        have hjl : j < ((AB.map (·.data.toList)).drop 1).length := by rw [List.length_drop, List.length_map]; omega
        rw [List.take_succ_eq_append_getElem hjl, HAR.out, List.map_append]
        congr 1
        rw [List.map_cons, List.map_nil, HZ1.out, List.getElem_drop, List.getElem_map]
        have h := HYK2.out (by rw [List.length_map]; exact hkA)
        rw [List.getElem_map] at h
        simp only [show 1 + j = k by omega]
        rw [h])
      have HAK9 := Lib.hid (show ∀ n ∈ ar ++ [z], -9223372036854775808 ≤ n ∧ n ≤ 9223372036854775807 from fun n hn => by
        rcases List.mem_append.1 hn with h | h
        · exact HAK.out n h
        · rw [List.mem_singleton.1 h]
          exact hzr)
      have p2 := hp8.at.g2
      have f2 := hp8.fz 2
      have pl := hp8.lt
      clear hp8 hr8 hq8 hol8 hoa8 hb8 hown hgrow HO8 HOL8 HOA8 HP8 HR8 HQ8 HB8 HNEWS HONE H63 HBY HBASE HO7 HOL7 HOA7 HP7 HR7 HQ7 HB7
      go_wp2_with fail
      go_roundg g
      case measure => omega
      case rel => exact ⟨k + 1, j + 1, cap, some ⟨g3, 0, none⟩, ar ++ [z], by go_num, by omega, by omega, by omega, by omega, Lib.hid (by rw [List.length_append, ← HN.out]; rfl), HAR9, HAK9, Lib.hid (by rw [List.map_append]; exact HO9.out), HP9, HR9, HQ9, HOL9, HOA9, HB9⟩
    · have hje : j = M := by omega
      subst hje
      have hdl : (((AB.map (·.data.toList)).drop 1)).length = j := by rw [List.length_drop, List.length_map, HMM.out]; rfl
      have HARR := Lib.hid (show splitC 32 x1.data.toList = [97, 114, 114, 97, 121, 115] :: ar.map Lib.itoa by
        have h := HAR.out
        rw [List.take_of_length_le (by rw [hdl]; exact Nat.le_refl _)] at h
        rw [← HAS.out, ← h, HAA.out, List.map_cons, HA0.out]
        rfl)
      clear hdl HAR HAS HAA HAZ HA0 HMM hlt
      go_wp2_with fail
      go_loopg [14] (N + 1) (fun g i wx => ∃ (k q cA : Nat) (Av : Option Addr) (is : List Ins), i = .int .i64 k ∧ k ≤ q + 2 ∧ q + 2 ≤ k ∧ k ≤ N ∧ N - k < g ∧ Hid (q = is.length) ∧ Hid (((LB.map (·.data.toList)).drop 2).take q = is.map body) ∧ Hid (∀ i ∈ is, (1 ≤ i.op ∧ i.op ≤ 29) ∧ i.Ok) ∧ Hid (wx.ownsRow w.heap.size 33 2 (.slice Av q cA) q (insCells is)) ∧ Hid (wx.ownsRow w.heap.size 3 1 (.slice Bv j cB) j (ar.map (Value.int .i64))) ∧ Hid (PgBlk wx (w.heap.size + 1) Av q cA n Bv j cB) ∧ Hid (PgBlk wx w.heap.size none 0 0 0 none 0 0) ∧ Hid (PgBlk wx (w.heap.size + 2) none 0 0 0 none 0 0) ∧ Hid (wx.ownsRow w.heap.size 9 1 (.slice (some ⟨bL, 0, none⟩) (N + 1) cL) (N + 1) (LB.map Value.string)) ∧ Hid (Below w.heap.size w wx))
      case atStart => exact ⟨2, 0, 0, none, [], rfl, by omega, by omega, by omega, by omega, rfl, rfl, (fun n hn => by cases hn), World.ownsRow_nil _ _ _ _, HO, HP, HR, HQ, HOL, HB⟩
      case round =>
        clear HO HP HR HQ HOL HOA HB hg hkj hkj2
        obtain ⟨k, q, cA, Av, is, rfl, hkj, hkj2, hkN, hg, HN2, HIN, HIK, HOC, HO, HP, HR, HQ, HOL, HB⟩ := hrel
        obtain ⟨g, rfl⟩ : ∃ g, gk = g + 1 := ⟨gk - 1, by omega⟩
        by_cases hlt : k < N
        · have hkL : k < LB.length := by rw [HNN.out]; omega
          have c0 := HOL.out.cellAt k (show k < (N + 1) * 1 by omega)
          simp only [List.getElem?_map, List.getElem?_eq_getElem hkL, Option.map_some] at c0
          have hx := HLS.out LB[k] (List.getElem_mem hkL)
          have HGK := Lib.hid (getD_map LB k hkL)
          have HGT := Lib.hid (show ((LB.map (·.data.toList)).drop 2)[q]? = some LB[k].data.toList by
            rw [List.getElem?_drop, show 2 + q = k by omega]
            simp [hkL])
          generalize LB[k] = x at *
          have hsw := split_any 32 x hx wr
          rw [h32] at hsw
          have HSW := Lib.hid hsw
          clear hsw
          go_wp2_with fail
          refine HSW.out.mono ?_
          rintro e w7 ⟨AW, cW, WB, rfl, hws, how, hb7⟩
          have HX7 := Lib.hid hb7
          have hwz : ∀ y ∈ WB, y.size ≤ 100000 := fun y hy => by
            have h := splitC_len 32 x.data.toList y.data.toList (by rw [← hws]; exact List.mem_map_of_mem hy)
            rw [← Lib.size_eq, ← Lib.size_eq] at h
            omega
          have hwb : WB.length ≤ 100001 := by
            have h := splitC_count 32 x.data.toList
            rw [← hws, List.length_map, ← Lib.size_eq] at h
            omega
          obtain ⟨y0, WR, hWB⟩ : ∃ y0 WR, WB = y0 :: WR := by
            cases WB with
            | nil => exact absurd hws.symm (splitC_ne 32 _)
            | cons a r => exact ⟨a, r, rfl⟩
          have hwl : WB.length = WR.length + 1 := by rw [hWB]; rfl
          obtain ⟨bW, rfl⟩ := own_some how (by omega)
          rw [hwl] at how ⊢
          have HWZ := Lib.hid hwz
          have HWS := Lib.hid hws
          have HWW := Lib.hid hWB
          have HOW := Lib.hid how
          have c1 := how.cellAt 0 (show 0 < (WR.length + 1) * 1 by omega)
          rw [hWB] at c1
          simp only [List.map_cons, List.getElem?_cons_zero] at c1
          clear c0 hwz hws hWB how hb7 hx HSW
          go_wp2_with fail
          refine (op5_any y0 w7).mono ?_
          rintro e w8 ⟨kk, rfl, hkk, hop1, hop0, hb8⟩
          have HX8 := Lib.hid (HX7.out.trans (hb8.mono HX7.out.size))
          have HOW8 := Lib.hid (own_below5 HOW.out hb8)
          have HOP1 := Lib.hid hop1
          have HOP0 := Lib.hid hop0
          have hwr : w.heap.size ≤ wr.heap.size := HB.out.size
          clear c1 hop1 hop0 hb8 HX7 HOW
          have hbA : Below w8.heap.size w8 (w8.alloc (.cells #[.int .u8 (kk : Int), .int .i64 0] 33)) := (Below.refl _ _).alloc (Nat.le_refl _) _
          have hI9 : (w8.alloc (.cells #[.int .u8 (kk : Int), .int .i64 0] 33)).heap[w8.heap.size]? = some (.cells #[.int .u8 (kk : Int), .int .i64 0] 33 (0, 0)) := heap_alloc_new _ _
          have HX9 := Lib.hid (HX8.out.trans (hbA.mono HX8.out.size))
          have HOW9 := Lib.hid (own_below5 HOW8.out hbA)
          have HI9 := Lib.hid hI9
          have hb0 : wr.heap.size ≤ w8.heap.size := HX8.out.size
          clear hbA hI9 HX8 HOW8
          go_upto_region 26 with fail
          generalize hW9 : w8.alloc (.cells #[.int .u8 (kk : Int), .int .i64 0] 33) = w9 at *
          generalize hBI : w8.heap.size = bi at *
          clear hW9 hBI
          have HR9 := Lib.hid (HR.out.below HX9.out)
          have HP9 := Lib.hid (HP.out.below HX9.out)
          have HQ9 := Lib.hid (HQ.out.below HX9.out)
          have HB9 := Lib.hid (HB.out.trans (HX9.out.mono HB.out.size))
          have i0 := cell_heap9 HI9.out 0 _ rfl
          have i1' := cell_heap9 HI9.out 1 _ rfl
          by_cases hW2 : 1 < WR.length
          · have hw2 : (2 : Int) < (WR.length : Int) + 1 := by omega
            have HNO := Lib.hid (show ∀ q' : Cp, q'.May → (∀ i ∈ q'.code, i.Ok) → (∀ n ∈ q'.arrays, -9223372036854775808 ≤ n ∧ n ≤ 9223372036854775807) → (⟨(cpText q').toArray⟩ : ByteArray) ≠ s from fun q' hq hk ha e => by
              obtain ⟨g1, g2, g3, g4, g5, g6, g7⟩ := lines_strict hq hk ha e HIS.out
              rw [List.length_map, HNN.out] at g2
              have hjq : q < q'.code.length := by omega
              obtain ⟨k1, k2, k3, k4⟩ := g7 q hjq
              rw [show 2 + q = k by omega, HGK.out, ← HWS.out] at k1
              have h := congrArg List.length k1
              rw [List.length_map, HWW.out, List.length_cons, List.length_cons] at h
              split at h
              · simp only [List.length_nil] at h
                omega
              · simp only [List.length_nil, List.length_cons] at h
                omega)
            have HX := Lib.hid (fun (y0 y1 y2 : Value) => ((HB9.out.setCell (p := ⟨w.heap.size, 0, none⟩) (Nat.le_refl _) y0).setCell (p := ⟨w.heap.size, 1, none⟩) (Nat.le_refl _) y1).setCell (p := ⟨w.heap.size, 2, none⟩) (Nat.le_refl _) y2)
            have r0 := HR9.out.at.g0
            have r1 := HR9.out.at.g1
            have r2 := HR9.out.at.g2
            have f0 := HR9.out.fz 0
            have f1 := HR9.out.fz 1
            have f2 := HR9.out.fz 2
            have rl := HR9.out.lt
            have q0 := HQ9.out.at.g0
            have q1 := HQ9.out.at.g1
            have q2 := HQ9.out.at.g2
            go_wp2_with fail
            have hZ := ((HR9.out.set0 none 0 0).set1 0).set2 none 0 0
            have x0 := hZ.at.g0
            have x1 := hZ.at.g1
            have x2 := hZ.at.g2
            refine bodyPost_ret (v := .tuple #[.agg #[.slice none 0 0, .int .i64 0, .slice none 0 0], .int .i64 50]) (by simp [results, Tryd.results22, go_sem, x0, x1, x2]) rfl ?_
            exact ⟨⟨[], 0, []⟩, 50, none, none, 0, 0, rfl, cpIn_empty _, .inr ⟨HNO.out, rfl, rfl⟩, HX.out _ _ _⟩
          by_cases hk0 : kk = 0
          · have hkz : ((kk : Int) == 0) = true := by rw [hk0]; rfl
            have hw2 : ¬ (2 : Int) < (WR.length : Int) + 1 := by omega
            have HNO := Lib.hid (show ∀ q' : Cp, q'.May → (∀ i ∈ q'.code, i.Ok) → (∀ n ∈ q'.arrays, -9223372036854775808 ≤ n ∧ n ≤ 9223372036854775807) → (⟨(cpText q').toArray⟩ : ByteArray) ≠ s from fun q' hq hk ha e => by
              obtain ⟨g1, g2, g3, g4, g5, g6, g7⟩ := lines_strict hq hk ha e HIS.out
              rw [List.length_map, HNN.out] at g2
              have hjq : q < q'.code.length := by omega
              obtain ⟨k1, k2, k3, k4⟩ := g7 q hjq
              rw [show 2 + q = k by omega, HGK.out, ← HWS.out] at k1
              rw [HWW.out, List.map_cons] at k1
              injection k1 with h0 _
              exact HOP0.out hk0 q'.code[q].op.toNat (by omega) (by omega) (ByteArray.ext (Array.toList_inj.1 h0.symm)))
            have HX := Lib.hid (fun (y0 y1 y2 : Value) => ((HB9.out.setCell (p := ⟨w.heap.size, 0, none⟩) (Nat.le_refl _) y0).setCell (p := ⟨w.heap.size, 1, none⟩) (Nat.le_refl _) y1).setCell (p := ⟨w.heap.size, 2, none⟩) (Nat.le_refl _) y2)
            have r0 := HR9.out.at.g0
            have r1 := HR9.out.at.g1
            have r2 := HR9.out.at.g2
            have f0 := HR9.out.fz 0
            have f1 := HR9.out.fz 1
            have f2 := HR9.out.fz 2
            have rl := HR9.out.lt
            have q0 := HQ9.out.at.g0
            have q1 := HQ9.out.at.g1
            have q2 := HQ9.out.at.g2
            go_wp2_with fail
            have hZ := ((HR9.out.set0 none 0 0).set1 0).set2 none 0 0
            have x0 := hZ.at.g0
            have x1 := hZ.at.g1
            have x2 := hZ.at.g2
            refine bodyPost_ret (v := .tuple #[.agg #[.slice none 0 0, .int .i64 0, .slice none 0 0], .int .i64 50]) (by simp [results, Tryd.results22, go_sem, x0, x1, x2]) rfl ?_
            exact ⟨⟨[], 0, []⟩, 50, none, none, 0, 0, rfl, cpIn_empty _, .inr ⟨HNO.out, rfl, rfl⟩, HX.out _ _ _⟩
          have hkz : ((kk : Int) == 0) = false := by rw [beq_eq_false_iff_ne]; omega
          have hw2 : ¬ (2 : Int) < (WR.length : Int) + 1 := by omega
          have HOPN := Lib.hid (HOP1.out (by omega))
          rcases Nat.eq_zero_or_pos WR.length with hW1 | hW1
          · have hw3 : (((WR.length : Int) + 1) == 2) = false := by rw [beq_eq_false_iff_ne]; omega
            have HBODY := Lib.hid (show x.data.toList = body ⟨(kk : Int), 0⟩ by
              apply split_inj (c := 32)
              rw [← HWS.out, HWW.out, List.eq_nil_of_length_eq_zero hW1, split_body]
              simp only [Int.toNat_natCast, List.map_cons, List.map_nil, if_true]
              rw [HOPN.out])
            clear HOW9
            have HOC9 := Lib.hid (own_below5 HOC.out HX9.out)
            have HO9 := Lib.hid (own_below5 HO.out HX9.out)
            have HOL9 := Lib.hid (own_below5 HOL.out HX9.out)
            clear HOC HO HOL HR HP HQ HB
            have hae : Below w9.heap.size w9 (w9.alloc (.cells #[.int .u8 (kk : Int), .int .i64 0] 33)) := (Below.refl _ _).alloc (Nat.le_refl _) _
            have HOC8 := Lib.hid (HOC9.out.alloc (.cells #[.int .u8 (kk : Int), .int .i64 0] 33))
            have HO8 := Lib.hid (HO9.out.alloc (.cells #[.int .u8 (kk : Int), .int .i64 0] 33))
            have HOL8 := Lib.hid (HOL9.out.alloc (.cells #[.int .u8 (kk : Int), .int .i64 0] 33))
            have HP8 := Lib.hid (HP9.out.below hae)
            have HR8 := Lib.hid (HR9.out.below hae)
            have HQ8 := Lib.hid (HQ9.out.below hae)
            have HB8 := Lib.hid (HB9.out.alloc HB9.out.size (.cells #[.int .u8 (kk : Int), .int .i64 0] 33))
            have HNEWS := Lib.hid (World.news_of_block (w := w9.alloc (.cells #[.int .u8 (kk : Int), .int .i64 0] 33)) (B := w9.heap.size) (cs := #[.int .u8 (kk : Int), .int .i64 0]) (t := 33) (fr := (0, 0)) (heap_alloc_new _ _))
            have HONE := Lib.hid (show ∀ y ∈ [Value.int .u8 (kk : Int), Value.int .i64 0], y.oneCell' = true by simp [Value.oneCell'])
            have H63 := Lib.hid (show q + 1 ≤ maxLen by unfold maxLen; omega)
            have HBY := Lib.hid (show (q + 1) * 16 ≤ 140737488355328 by omega)
            have HBASE := Lib.hid HB8.out.size
            have p0 := HP9.out.at.g0
            have pl := HP9.out.lt
            clear hae
            go_wp2_with (at_builtin; refine wpList_append_lies _ rfl (.tmp 140) (.tmp 142) 22 rfl w.heap.size 33 i2 _ 2 16 Tryd.underlying22 H2.out.1 H2.out.2.1 H2.out.2.2.1 H2.out.2.2.2 rfl (by decide) (.slice Av q cA) q _ rfl HOC8.out ⟨w9.heap.size, 0, none⟩ 1 1 [Value.int .u8 (kk : Int), Value.int .i64 0] rfl rfl HNEWS.out HONE.out (by decide) H63.out HBY.out HBASE.out _ rfl ?_)
            intro g3 cap wC hown hgrow _ _
            have hp8 : PgBlk wC (w.heap.size + 1) Av q cA n Bv j cB := (hgrow.block _ HP8.out.lt (fun e => own_ne_blk HOC8.out HP8.out (by decide) e.symm)).trans HP8.out
            have hr8 : PgBlk wC w.heap.size none 0 0 0 none 0 0 := (hgrow.block _ HR8.out.lt (fun e => own_ne_blk HOC8.out HR8.out (by decide) e.symm)).trans HR8.out
            have hq8 : PgBlk wC (w.heap.size + 2) none 0 0 0 none 0 0 := (hgrow.block _ HQ8.out.lt (fun e => own_ne_blk HOC8.out HQ8.out (by decide) e.symm)).trans HQ8.out
            have hol8 := HOL8.out.kept hgrow (own_ne2 HOL8.out HOC8.out (by decide))
            have ho8 := HO8.out.kept hgrow (own_ne2 HO8.out HOC8.out (by decide))
            have hb8 := below_grown5 HB8.out hgrow HBASE.out (fun g hg => (HOC8.out.lt g hg).1)
            have HPD := Lib.hid (hp8.set0 (some ⟨g3, 0, none⟩) (q + 1) cap)
            have HRD := Lib.hid (hr8.other (show w.heap.size + 1 ≠ w.heap.size by omega) 0 (.slice (some ⟨g3, 0, none⟩) (q + 1) cap))
            have HQD := Lib.hid (hq8.other (show w.heap.size + 1 ≠ w.heap.size + 2 by omega) 0 (.slice (some ⟨g3, 0, none⟩) (q + 1) cap))
            have HOCD := Lib.hid (ownsRow_setCell_other hown (a := ⟨w.heap.size + 1, 0, none⟩) (own_ne_blk hown hp8 (by decide)) (.slice (some ⟨g3, 0, none⟩) (q + 1) cap))
            have HOD := Lib.hid (ownsRow_setCell_other ho8 (a := ⟨w.heap.size + 1, 0, none⟩) (own_ne_blk ho8 hp8 (by decide)) (.slice (some ⟨g3, 0, none⟩) (q + 1) cap))
            have HOLD := Lib.hid (ownsRow_setCell_other hol8 (a := ⟨w.heap.size + 1, 0, none⟩) (own_ne_blk hol8 hp8 (by decide)) (.slice (some ⟨g3, 0, none⟩) (q + 1) cap))
            have HBD := Lib.hid (hb8.setCell (p := ⟨w.heap.size + 1, 0, none⟩) (Nat.le_succ _) (.slice (some ⟨g3, 0, none⟩) (q + 1) cap))
            have HIND := Lib.hid (show ((LB.map (·.data.toList)).drop 2).take (q + 1) = (is ++ [(⟨(kk : Int), 0⟩ : Ins)]).map body by
              rw [List.take_add_one, HIN.out, HGT.out, List.map_append, HBODY.out]
              rfl)
            have HIKD := Lib.hid (show ∀ i ∈ is ++ [(⟨(kk : Int), 0⟩ : Ins)], (1 ≤ i.op ∧ i.op ≤ 29) ∧ i.Ok from fun i hi => by
              rcases List.mem_append.1 hi with h | h
              · exact HIK.out i h
              · rw [List.mem_singleton.1 h]
                exact ⟨⟨by show (1 : Int) ≤ (kk : Int); omega, by show (kk : Int) ≤ 29; omega⟩, ⟨by show (0 : Int) ≤ (kk : Int); omega, by show (kk : Int) ≤ 255; omega⟩, by show (-9223372036854775808 : Int) ≤ 0 ∧ (0 : Int) ≤ 9223372036854775807; omega⟩)
            have p0 := hp8.at.g0
            have f0 := hp8.fz 0
            have pl := hp8.lt
            clear hp8 hr8 hq8 hol8 ho8 hb8 HOC8 HO8 HOL8 HP8 HR8 HQ8 HB8 HNEWS HONE H63 HBY HBASE HOC9 HO9 HOL9 HP9 HR9 HQ9 HB9 i0 i1'
            go_wp2_with fail
            go_roundg g
            case measure => omega
            case rel => exact ⟨k + 1, q + 1, cap, some ⟨g3, 0, none⟩, is ++ [⟨(kk : Int), 0⟩], by go_num, by omega, by omega, by omega, by omega, Lib.hid (by rw [List.length_append, ← HN2.out]; rfl), HIND, HIKD, Lib.hid (by rw [insCells_snoc]; exact HOCD.out), HOD, HPD, HRD, HQD, HOLD, HBD⟩
          · obtain ⟨y1, hWR⟩ : ∃ y1, WR = [y1] := by
              match WR, hW1, hW2 with
              | [a], _, _ => exact ⟨a, rfl⟩
              | a :: b :: r, _, h => simp at h
            have hw3 : (((WR.length : Int) + 1) == 2) = true := by rw [hWR]; rfl
            have HWR := Lib.hid hWR
            have c1 := HOW9.out.cellAt 1 (show 1 < (WR.length + 1) * 1 by omega)
            rw [HWW.out, hWR] at c1
            simp only [List.map_cons, List.getElem?_cons_zero, List.getElem?_cons_succ] at c1
            have hy1 := HWZ.out y1 (by rw [HWW.out, hWR]; simp)
            clear hWR
            go_wp2_with fail
            refine (number5_any y1 hy1 w9).mono ?_
            rintro e wA ⟨u, b, rfl, hu, hbA⟩
            have HNU := Lib.hid hu
            have hur := hu.1
            have HXA := Lib.hid (HX9.out.trans (hbA.mono HX9.out.size))
            have HIA := Lib.hid ((hbA.block bi (lt_heap9 HI9.out)).trans HI9.out)
            clear c1 hy1 hu hbA i0 i1' HX9 HI9 HR9 HP9 HQ9 HB9 HOW9
            have HR9 := Lib.hid (HR.out.below HXA.out)
            have HP9 := Lib.hid (HP.out.below HXA.out)
            have HQ9 := Lib.hid (HQ.out.below HXA.out)
            have HB9 := Lib.hid (HB.out.trans (HXA.out.mono HB.out.size))
            cases b
            case false =>
              have HNO := Lib.hid (show ∀ q' : Cp, q'.May → (∀ i ∈ q'.code, i.Ok) → (∀ n ∈ q'.arrays, -9223372036854775808 ≤ n ∧ n ≤ 9223372036854775807) → (⟨(cpText q').toArray⟩ : ByteArray) ≠ s from fun q' hq hk ha e => by
                obtain ⟨g1, g2, g3, g4, g5, g6, g7⟩ := lines_strict hq hk ha e HIS.out
                rw [List.length_map, HNN.out] at g2
                have hjq : q < q'.code.length := by omega
                obtain ⟨k1, k2, k3, k4⟩ := g7 q hjq
                rw [show 2 + q = k by omega, HGK.out, ← HWS.out] at k1
                rw [HWW.out, HWR.out] at k1
                simp only [List.map_cons, List.map_nil] at k1
                injection k1 with _ h1
                split at h1
                · cases h1
                · injection h1 with h1 _
                  exact HNU.out.2.2 rfl _ (by rw [h1]; exact k4))
              have HX := Lib.hid (fun (y0 y1 y2 : Value) => ((HB9.out.setCell (p := ⟨w.heap.size, 0, none⟩) (Nat.le_refl _) y0).setCell (p := ⟨w.heap.size, 1, none⟩) (Nat.le_refl _) y1).setCell (p := ⟨w.heap.size, 2, none⟩) (Nat.le_refl _) y2)
              have r0 := HR9.out.at.g0
              have r1 := HR9.out.at.g1
              have r2 := HR9.out.at.g2
              have f0 := HR9.out.fz 0
              have f1 := HR9.out.fz 1
              have f2 := HR9.out.fz 2
              have rl := HR9.out.lt
              have q0 := HQ9.out.at.g0
              have q1 := HQ9.out.at.g1
              have q2 := HQ9.out.at.g2
              go_wp2_with fail
              have hZ := ((HR9.out.set0 none 0 0).set1 0).set2 none 0 0
              have x0 := hZ.at.g0
              have x1 := hZ.at.g1
              have x2 := hZ.at.g2
              refine bodyPost_ret (v := .tuple #[.agg #[.slice none 0 0, .int .i64 0, .slice none 0 0], .int .i64 50]) (by simp [results, Tryd.results22, go_sem, x0, x1, x2]) rfl ?_
              exact ⟨⟨[], 0, []⟩, 50, none, none, 0, 0, rfl, cpIn_empty _, .inr ⟨HNO.out, rfl, rfl⟩, HX.out _ _ _⟩
            by_cases hu0 : u = 0
            · have huz : (u == 0) = true := by rw [hu0]; rfl
              have HNO := Lib.hid (show ∀ q' : Cp, q'.May → (∀ i ∈ q'.code, i.Ok) → (∀ n ∈ q'.arrays, -9223372036854775808 ≤ n ∧ n ≤ 9223372036854775807) → (⟨(cpText q').toArray⟩ : ByteArray) ≠ s from fun q' hq hk ha e => by
                obtain ⟨g1, g2, g3, g4, g5, g6, g7⟩ := lines_strict hq hk ha e HIS.out
                rw [List.length_map, HNN.out] at g2
                have hjq : q < q'.code.length := by omega
                obtain ⟨k1, k2, k3, k4⟩ := g7 q hjq
                rw [show 2 + q = k by omega, HGK.out, ← HWS.out] at k1
                rw [HWW.out, HWR.out] at k1
                simp only [List.map_cons, List.map_nil] at k1
                injection k1 with _ h1
                split at h1
                · cases h1
                · rename_i hne
                  injection h1 with h1 _
                  have h2 := HNU.out.2.1 rfl
                  rw [h1] at h2
                  exact hne ((itoa_inj hur k4.1 h2).symm.trans hu0))
              have HX := Lib.hid (fun (y0 y1 y2 : Value) => ((HB9.out.setCell (p := ⟨w.heap.size, 0, none⟩) (Nat.le_refl _) y0).setCell (p := ⟨w.heap.size, 1, none⟩) (Nat.le_refl _) y1).setCell (p := ⟨w.heap.size, 2, none⟩) (Nat.le_refl _) y2)
              have r0 := HR9.out.at.g0
              have r1 := HR9.out.at.g1
              have r2 := HR9.out.at.g2
              have f0 := HR9.out.fz 0
              have f1 := HR9.out.fz 1
              have f2 := HR9.out.fz 2
              have rl := HR9.out.lt
              have q0 := HQ9.out.at.g0
              have q1 := HQ9.out.at.g1
              have q2 := HQ9.out.at.g2
              go_wp2_with fail
              have hZ := ((HR9.out.set0 none 0 0).set1 0).set2 none 0 0
              have x0 := hZ.at.g0
              have x1 := hZ.at.g1
              have x2 := hZ.at.g2
              refine bodyPost_ret (v := .tuple #[.agg #[.slice none 0 0, .int .i64 0, .slice none 0 0], .int .i64 50]) (by simp [results, Tryd.results22, go_sem, x0, x1, x2]) rfl ?_
              exact ⟨⟨[], 0, []⟩, 50, none, none, 0, 0, rfl, cpIn_empty _, .inr ⟨HNO.out, rfl, rfl⟩, HX.out _ _ _⟩
            have huz : (u == 0) = false := by rw [beq_eq_false_iff_ne]; exact hu0
            have HBODY := Lib.hid (show x.data.toList = body ⟨(kk : Int), u⟩ by
              apply split_inj (c := 32)
              rw [← HWS.out, HWW.out, HWR.out, split_body]
              simp only [Int.toNat_natCast, List.map_cons, List.map_nil]
              rw [if_neg hu0, HOPN.out, HNU.out.2.1 rfl])
            have i0 := cell_heap9 HIA.out 0 _ rfl
            have i1' := cell_heap9 HIA.out 1 _ rfl
            have if1 := frozen_heap9 HIA.out 1
            have ilt := lt_heap9 HIA.out
            go_upto_region 33 with fail
            have HIB := Lib.hid (show (wA.setCell ⟨bi, 1, none⟩ (.int .i64 u)).heap[bi]? = some (.cells #[.int .u8 (kk : Int), .int .i64 u] 33 (0, 0)) by rw [heap_setCell_same wA bi 1 _ _ _ HIA.out]; rfl)
            have HXB := Lib.hid (HXA.out.setCell (p := ⟨bi, 1, none⟩) hb0 (.int .i64 u))
            clear HR9 HP9 HQ9 HB9 HXA HIA i0 i1' if1 ilt
            generalize wA.setCell ⟨bi, 1, none⟩ (.int .i64 u) = wB at *
            have HR9 := Lib.hid (HR.out.below HXB.out)
            have HP9 := Lib.hid (HP.out.below HXB.out)
            have HQ9 := Lib.hid (HQ.out.below HXB.out)
            have HB9 := Lib.hid (HB.out.trans (HXB.out.mono HB.out.size))
            have i0 := cell_heap9 HIB.out 0 _ rfl
            have i1' := cell_heap9 HIB.out 1 _ rfl
            have HOC9 := Lib.hid (own_below5 HOC.out HXB.out)
            have HO9 := Lib.hid (own_below5 HO.out HXB.out)
            have HOL9 := Lib.hid (own_below5 HOL.out HXB.out)
            clear HOC HO HOL HR HP HQ HB
            have hae : Below wB.heap.size wB (wB.alloc (.cells #[.int .u8 (kk : Int), .int .i64 u] 33)) := (Below.refl _ _).alloc (Nat.le_refl _) _
            have HOC8 := Lib.hid (HOC9.out.alloc (.cells #[.int .u8 (kk : Int), .int .i64 u] 33))
            have HO8 := Lib.hid (HO9.out.alloc (.cells #[.int .u8 (kk : Int), .int .i64 u] 33))
            have HOL8 := Lib.hid (HOL9.out.alloc (.cells #[.int .u8 (kk : Int), .int .i64 u] 33))
            have HP8 := Lib.hid (HP9.out.below hae)
            have HR8 := Lib.hid (HR9.out.below hae)
            have HQ8 := Lib.hid (HQ9.out.below hae)
            have HB8 := Lib.hid (HB9.out.alloc HB9.out.size (.cells #[.int .u8 (kk : Int), .int .i64 u] 33))
            have HNEWS := Lib.hid (World.news_of_block (w := wB.alloc (.cells #[.int .u8 (kk : Int), .int .i64 u] 33)) (B := wB.heap.size) (cs := #[.int .u8 (kk : Int), .int .i64 u]) (t := 33) (fr := (0, 0)) (heap_alloc_new _ _))
            have HONE := Lib.hid (show ∀ y ∈ [Value.int .u8 (kk : Int), Value.int .i64 u], y.oneCell' = true by simp [Value.oneCell'])
            have H63 := Lib.hid (show q + 1 ≤ maxLen by unfold maxLen; omega)
            have HBY := Lib.hid (show (q + 1) * 16 ≤ 140737488355328 by omega)
            have HBASE := Lib.hid HB8.out.size
            have p0 := HP9.out.at.g0
            have pl := HP9.out.lt
            clear hae
            go_wp2_with (at_builtin; refine wpList_append_lies _ rfl (.tmp 140) (.tmp 142) 22 rfl w.heap.size 33 i2 _ 2 16 Tryd.underlying22 H2.out.1 H2.out.2.1 H2.out.2.2.1 H2.out.2.2.2 rfl (by decide) (.slice Av q cA) q _ rfl HOC8.out ⟨wB.heap.size, 0, none⟩ 1 1 [Value.int .u8 (kk : Int), Value.int .i64 u] rfl rfl HNEWS.out HONE.out (by decide) H63.out HBY.out HBASE.out _ rfl ?_)
            intro g3 cap wC hown hgrow _ _
            have hp8 : PgBlk wC (w.heap.size + 1) Av q cA n Bv j cB := (hgrow.block _ HP8.out.lt (fun e => own_ne_blk HOC8.out HP8.out (by decide) e.symm)).trans HP8.out
            have hr8 : PgBlk wC w.heap.size none 0 0 0 none 0 0 := (hgrow.block _ HR8.out.lt (fun e => own_ne_blk HOC8.out HR8.out (by decide) e.symm)).trans HR8.out
            have hq8 : PgBlk wC (w.heap.size + 2) none 0 0 0 none 0 0 := (hgrow.block _ HQ8.out.lt (fun e => own_ne_blk HOC8.out HQ8.out (by decide) e.symm)).trans HQ8.out
            have hol8 := HOL8.out.kept hgrow (own_ne2 HOL8.out HOC8.out (by decide))
            have ho8 := HO8.out.kept hgrow (own_ne2 HO8.out HOC8.out (by decide))
            have hb8 := below_grown5 HB8.out hgrow HBASE.out (fun g hg => (HOC8.out.lt g hg).1)
            have HPD := Lib.hid (hp8.set0 (some ⟨g3, 0, none⟩) (q + 1) cap)
            have HRD := Lib.hid (hr8.other (show w.heap.size + 1 ≠ w.heap.size by omega) 0 (.slice (some ⟨g3, 0, none⟩) (q + 1) cap))
            have HQD := Lib.hid (hq8.other (show w.heap.size + 1 ≠ w.heap.size + 2 by omega) 0 (.slice (some ⟨g3, 0, none⟩) (q + 1) cap))
            have HOCD := Lib.hid (ownsRow_setCell_other hown (a := ⟨w.heap.size + 1, 0, none⟩) (own_ne_blk hown hp8 (by decide)) (.slice (some ⟨g3, 0, none⟩) (q + 1) cap))
            have HOD := Lib.hid (ownsRow_setCell_other ho8 (a := ⟨w.heap.size + 1, 0, none⟩) (own_ne_blk ho8 hp8 (by decide)) (.slice (some ⟨g3, 0, none⟩) (q + 1) cap))
            have HOLD := Lib.hid (ownsRow_setCell_other hol8 (a := ⟨w.heap.size + 1, 0, none⟩) (own_ne_blk hol8 hp8 (by decide)) (.slice (some ⟨g3, 0, none⟩) (q + 1) cap))
            have HBD := Lib.hid (hb8.setCell (p := ⟨w.heap.size + 1, 0, none⟩) (Nat.le_succ _) (.slice (some ⟨g3, 0, none⟩) (q + 1) cap))
            have HIND := Lib.hid (show ((LB.map (·.data.toList)).drop 2).take (q + 1) = (is ++ [(⟨(kk : Int), u⟩ : Ins)]).map body by
              rw [List.take_add_one, HIN.out, HGT.out, List.map_append, HBODY.out]
              rfl)
            have HIKD := Lib.hid (show ∀ i ∈ is ++ [(⟨(kk : Int), u⟩ : Ins)], (1 ≤ i.op ∧ i.op ≤ 29) ∧ i.Ok from fun i hi => by
              rcases List.mem_append.1 hi with h | h
              · exact HIK.out i h
              · rw [List.mem_singleton.1 h]
                exact ⟨⟨by show (1 : Int) ≤ (kk : Int); omega, by show (kk : Int) ≤ 29; omega⟩, ⟨by show (0 : Int) ≤ (kk : Int); omega, by show (kk : Int) ≤ 255; omega⟩, hur⟩)
            have p0 := hp8.at.g0
            have f0 := hp8.fz 0
            have pl := hp8.lt
            clear hp8 hr8 hq8 hol8 ho8 hb8 HOC8 HO8 HOL8 HP8 HR8 HQ8 HB8 HNEWS HONE H63 HBY HBASE HOC9 HO9 HOL9 HP9 HR9 HQ9 HB9 i0 i1'
            go_wp2_with fail
            go_roundg g
            case measure => omega
            case rel => exact ⟨k + 1, q + 1, cap, some ⟨g3, 0, none⟩, is ++ [⟨(kk : Int), u⟩], by go_num, by omega, by omega, by omega, by omega, Lib.hid (by rw [List.length_append, ← HN2.out]; rfl), HIND, HIKD, Lib.hid (by rw [insCells_snoc]; exact HOCD.out), HOD, HPD, HRD, HQD, HOLD, HBD⟩
        · have hke : q = LB.length - 3 := by have := HNN.out; omega
          have HTXT := Lib.hid (show (⟨(cpText ⟨is, n, ar⟩).toArray⟩ : ByteArray) = s from strict_text (q := ⟨is, n, ar⟩) HIS.out (by rw [List.length_map, HNN.out]; omega) (by rw [List.length_map, HNN.out, show N + 1 - 1 = N from rfl, HLAST.out]; exact HL0.out) (by
            rw [HG0.out, ← HVS.out, HVV.out]
            simp only [List.map_cons, List.map_nil]
            rw [HV0.out, HN1.out]) (by rw [HG1.out]; exact HARR.out) (by rw [List.length_map, ← hke]; exact HIN.out))
          have hn2 := HN2.out
          have hn1 := HN.out
          clear HN HN2 hke hkj hkj2 hg
          subst hn2
          subst hn1
          have hokk : ∀ i ∈ is, i.Ok := fun i hi => (HIK.out i hi).2
          have HIQ := Lib.hid (cpIn_own (q := ⟨is, n, ar⟩) HOC.out HO.out hokk HAK.out hnr)
          have p0 := HP.out.at.g0
          have p1 := HP.out.at.g1
          have p2 := HP.out.at.g2
          go_wp2_with fail
          refine (rmay_any Av Bv cA cB ⟨is, n, ar⟩ wr HIQ.out).mono ?_
          rintro e w8 ⟨rfl, hb8⟩
          have HP8 := Lib.hid (HP.out.below hb8)
          have HR8 := Lib.hid (HR.out.below hb8)
          have HQ8 := Lib.hid (HQ.out.below hb8)
          have hC8 := own_below5 HOC.out hb8
          have hA8 := own_below5 HO.out hb8
          have hneC := own_ne_blk hC8 HR8.out (by decide)
          have hneA := own_ne_blk hA8 HR8.out (by decide)
          have HC9 := Lib.hid (fun (y0 y1 y2 : Value) => ownsRow_setCell_other (ownsRow_setCell_other (ownsRow_setCell_other hC8 (a := ⟨w.heap.size, 0, none⟩) hneC y0) (a := ⟨w.heap.size, 1, none⟩) hneC y1) (a := ⟨w.heap.size, 2, none⟩) hneC y2)
          have HA9 := Lib.hid (fun (y0 y1 y2 : Value) => ownsRow_setCell_other (ownsRow_setCell_other (ownsRow_setCell_other hA8 (a := ⟨w.heap.size, 0, none⟩) hneA y0) (a := ⟨w.heap.size, 1, none⟩) hneA y1) (a := ⟨w.heap.size, 2, none⟩) hneA y2)
          have HB8 := Lib.hid (HB.out.trans (hb8.mono HB.out.size))
          clear hneC hneA hC8 hA8 hb8 p0 p1 p2 HOC HO HOL HP HR HQ HB
          by_cases hmay : (Cp.mk is n ar).May
          case neg =>
            have hmb := Cp.mayB_false hmay
            rw [hmb]
            have HNO := Lib.hid (show ∀ q' : Cp, q'.May → (∀ i ∈ q'.code, i.Ok) → (∀ n ∈ q'.arrays, -9223372036854775808 ≤ n ∧ n ≤ 9223372036854775807) → (⟨(cpText q').toArray⟩ : ByteArray) ≠ s from fun q' hq hk ha e => by
              obtain ⟨g1, g2, g3, g4, g5, g6, g7⟩ := lines_strict hq hk ha e HIS.out
              have h := cpText_ne (q := ⟨is, n, ar⟩) (fun i hi => (HIK.out i hi).1) (fun i hi => (HIK.out i hi).2.2) hnr HAK.out HTXT.out hq hk ha e
              rw [h] at hq
              exact hmay hq)
            have HX := Lib.hid (fun (y0 y1 y2 : Value) => ((HB8.out.setCell (p := ⟨w.heap.size, 0, none⟩) (Nat.le_refl _) y0).setCell (p := ⟨w.heap.size, 1, none⟩) (Nat.le_refl _) y1).setCell (p := ⟨w.heap.size, 2, none⟩) (Nat.le_refl _) y2)
            have r0 := HR8.out.at.g0
            have r1 := HR8.out.at.g1
            have r2 := HR8.out.at.g2
            have f0 := HR8.out.fz 0
            have f1 := HR8.out.fz 1
            have f2 := HR8.out.fz 2
            have rl := HR8.out.lt
            have q0 := HQ8.out.at.g0
            have q1 := HQ8.out.at.g1
            have q2 := HQ8.out.at.g2
            go_wp2_with fail
            have hZ := ((HR8.out.set0 none 0 0).set1 0).set2 none 0 0
            have x0 := hZ.at.g0
            have x1 := hZ.at.g1
            have x2 := hZ.at.g2
            refine bodyPost_ret (v := .tuple #[.agg #[.slice none 0 0, .int .i64 0, .slice none 0 0], .int .i64 50]) (by simp [results, Tryd.results22, go_sem, x0, x1, x2]) rfl ?_
            exact ⟨⟨[], 0, []⟩, 50, none, none, 0, 0, rfl, cpIn_empty _, .inr ⟨HNO.out, rfl, rfl⟩, HX.out _ _ _⟩
          case pos =>
            have hmb := Cp.mayB_true hmay
            rw [hmb]
            have HMAY := Lib.hid hmay
            clear hmb hmay
            have HX := Lib.hid (fun (y0 y1 y2 : Value) => ((HB8.out.setCell (p := ⟨w.heap.size, 0, none⟩) (Nat.le_refl _) y0).setCell (p := ⟨w.heap.size, 1, none⟩) (Nat.le_refl _) y1).setCell (p := ⟨w.heap.size, 2, none⟩) (Nat.le_refl _) y2)
            have p0 := HP8.out.at.g0
            have p1 := HP8.out.at.g1
            have p2 := HP8.out.at.g2
            have f0 := HR8.out.fz 0
            have f1 := HR8.out.fz 1
            have f2 := HR8.out.fz 2
            have r0 := HR8.out.at.g0
            have r1 := HR8.out.at.g1
            have r2 := HR8.out.at.g2
            have rl := HR8.out.lt
            go_wp2_with fail
            have hZ := ((HR8.out.set0 Av is.length cA).set1 n).set2 Bv ar.length cB
            have x0 := hZ.at.g0
            have x1 := hZ.at.g1
            have x2 := hZ.at.g2
            refine bodyPost_ret (v := .tuple #[.agg #[.slice Av is.length cA, .int .i64 n, .slice Bv ar.length cB], .int .i64 0]) (by simp [results, Tryd.results22, go_sem, x0, x1, x2]) rfl ?_
            exact ⟨⟨is, n, ar⟩, 0, Av, Bv, cA, cB, rfl, cpIn_own (HC9.out _ _ _) (HA9.out _ _ _) HIQ.out.ok HIQ.out.aok HIQ.out.vok, .inl ⟨HMAY.out, HTXT.out, rfl⟩, HX.out _ _ _⟩
end Go.Proofs.YtaanhkepimjelaaDoor
