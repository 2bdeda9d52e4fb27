/- The walk of call.Parse. -/
import Derived.Test.YtgphigpbgiceiaaGreatDoorClParK
import Derived.Test.YtgphigpbgiceiaaGreatDoorClText
import Derived.Deep.LoopGhost
namespace Go.Proofs.YtgphigpbgiceiaaGreatDoor
open Go.RowKit Go.Sort
set_option linter.unusedVariables false
set_option linter.unusedSimpArgs false

/-- A block of eleven cells, filled. -/
def fill (w : World) (q : Nat) (v0 v1 v2 v3 v4 v5 v6 v7 v8 v9 vA : Value) : World := (((((((((((w.setCell ⟨q, 0, none⟩ v0).setCell ⟨q, 1, none⟩ v1).setCell ⟨q, 2, none⟩ v2).setCell ⟨q, 3, none⟩ v3).setCell ⟨q, 4, none⟩ v4).setCell ⟨q, 5, none⟩ v5).setCell ⟨q, 6, none⟩ v6).setCell ⟨q, 7, none⟩ v7).setCell ⟨q, 8, none⟩ v8).setCell ⟨q, 9, none⟩ v9).setCell ⟨q, 10, none⟩ vA)
theorem fill_blk {w : World} {q : Nat} {cs : Array Value} (h : CBlk w q cs) (hs : cs.size = 11) (v0 v1 v2 v3 v4 v5 v6 v7 v8 v9 vA : Value) : CBlk (fill w q v0 v1 v2 v3 v4 v5 v6 v7 v8 v9 vA) q #[v0, v1, v2, v3, v4, v5, v6, v7, v8, v9, vA] := by
  obtain ⟨l⟩ := cs
  match l, hs with
  | [a0, a1, a2, a3, a4, a5, a6, a7, a8, a9, aA], _ =>
    have s0 : CBlk _ q #[v0, a1, a2, a3, a4, a5, a6, a7, a8, a9, aA] := CBlk.set h 0 v0
    have s1 : CBlk _ q #[v0, v1, a2, a3, a4, a5, a6, a7, a8, a9, aA] := CBlk.set s0 1 v1
    have s2 : CBlk _ q #[v0, v1, v2, a3, a4, a5, a6, a7, a8, a9, aA] := CBlk.set s1 2 v2
    have s3 : CBlk _ q #[v0, v1, v2, v3, a4, a5, a6, a7, a8, a9, aA] := CBlk.set s2 3 v3
    have s4 : CBlk _ q #[v0, v1, v2, v3, v4, a5, a6, a7, a8, a9, aA] := CBlk.set s3 4 v4
    have s5 : CBlk _ q #[v0, v1, v2, v3, v4, v5, a6, a7, a8, a9, aA] := CBlk.set s4 5 v5
    have s6 : CBlk _ q #[v0, v1, v2, v3, v4, v5, v6, a7, a8, a9, aA] := CBlk.set s5 6 v6
    have s7 : CBlk _ q #[v0, v1, v2, v3, v4, v5, v6, v7, a8, a9, aA] := CBlk.set s6 7 v7
    have s8 : CBlk _ q #[v0, v1, v2, v3, v4, v5, v6, v7, v8, a9, aA] := CBlk.set s7 8 v8
    have s9 : CBlk _ q #[v0, v1, v2, v3, v4, v5, v6, v7, v8, v9, aA] := CBlk.set s8 9 v9
    have sA : CBlk _ q #[v0, v1, v2, v3, v4, v5, v6, v7, v8, v9, vA] := CBlk.set s9 10 vA
    exact sA
theorem fill_below {B : Nat} {w0 w : World} (h : Below B w0 w) {q : Nat} (hq : B ≤ q) (v0 v1 v2 v3 v4 v5 v6 v7 v8 v9 vA : Value) : Below B w0 (fill w q v0 v1 v2 v3 v4 v5 v6 v7 v8 v9 vA) := by
  unfold fill
  exact (Below.setCell (Below.setCell (Below.setCell (Below.setCell (Below.setCell (Below.setCell (Below.setCell (Below.setCell (Below.setCell (Below.setCell (Below.setCell h (p := ⟨q, 0, none⟩) hq v0) (p := ⟨q, 1, none⟩) hq v1) (p := ⟨q, 2, none⟩) hq v2) (p := ⟨q, 3, none⟩) hq v3) (p := ⟨q, 4, none⟩) hq v4) (p := ⟨q, 5, none⟩) hq v5) (p := ⟨q, 6, none⟩) hq v6) (p := ⟨q, 7, none⟩) hq v7) (p := ⟨q, 8, none⟩) hq v8) (p := ⟨q, 9, none⟩) hq v9) (p := ⟨q, 10, none⟩) hq vA)
theorem fill_apart {w : World} {B : Option Addr} {l : List Int} {q : Nat} (h : IntApart w B l q q) (v0 v1 v2 v3 v4 v5 v6 v7 v8 v9 vA : Value) : IntApart (fill w q v0 v1 v2 v3 v4 v5 v6 v7 v8 v9 vA) B l q q := by
  unfold fill
  exact (IntApart.set (IntApart.set (IntApart.set (IntApart.set (IntApart.set (IntApart.set (IntApart.set (IntApart.set (IntApart.set (IntApart.set (IntApart.set h ⟨q, 0, none⟩ (Or.inl rfl) v0) ⟨q, 1, none⟩ (Or.inl rfl) v1) ⟨q, 2, none⟩ (Or.inl rfl) v2) ⟨q, 3, none⟩ (Or.inl rfl) v3) ⟨q, 4, none⟩ (Or.inl rfl) v4) ⟨q, 5, none⟩ (Or.inl rfl) v5) ⟨q, 6, none⟩ (Or.inl rfl) v6) ⟨q, 7, none⟩ (Or.inl rfl) v7) ⟨q, 8, none⟩ (Or.inl rfl) v8) ⟨q, 9, none⟩ (Or.inl rfl) v9) ⟨q, 10, none⟩ (Or.inl rfl) vA)
/-- What is told of a text. -/
def ParsePost (s : ByteArray) (w : World) (e : Ending) (w' : World) : Prop := ∃ (c : Cl) (B : Option Addr) (cb : Nat) (er : Int), e = .returned (.tuple #[.agg (clCells c B cb), .int .i64 er]) ∧ IntRow w' B c.reqs ∧ Below w.heap.size w w' ∧
  ((er = 0 ∧ c.Ok ∧ textB c = true ∧ (⟨(clText c ((usesF c.kind).getD [])).toArray⟩ : ByteArray) = s) ∨ (er = 160 ∧ c = zeroCl ∧ ∀ d : Cl, d.Ok → textB d = true → (⟨(clText d ((usesF d.kind).getD [])).toArray⟩ : ByteArray) ≠ s))
theorem callOf_ok (s : ByteArray) : 0 ≤ callOf s ∧ callOf s ≤ 255 := by
  have := callOf_bd s
  omega
theorem kindCl_ok {k : Int} (h : 0 ≤ k ∧ k ≤ 255) : (kindCl k).Ok := ⟨h, by simp [kindCl, I64], by simp [kindCl, I64], by simp [kindCl, I64], by simp [kindCl, I64], by simp [kindCl, I64], by simp [kindCl, I64], by simp [kindCl], by simp [kindCl], by simp [kindCl, I64], by simp [kindCl, I64]⟩
theorem setF_ok {c : Cl} (h : c.Ok) {n : Int} (hn : I64 n) (f : Nat) : (setF c n f).Ok := by
  unfold setF
  split
  · exact { h with comm := hn }
  · exact { h with peer := hn }
  · exact { h with tag := hn }
  · exact { h with value := hn }
  · exact { h with size := hn }
  · exact { h with root := hn }
  · exact { h with color := hn }
  · exact { h with key := hn }
  · exact { h with op := (by show 0 ≤ n % 256 ∧ n % 256 ≤ 255; omega) }
  · exact h
theorem redIdx_ok (w : List UInt8) : 0 ≤ redIdx w ∧ redIdx w ≤ 2 := by
  have h := idxFromS_bd ⟨w.toArray⟩ redsB 0
  have e : redsB.length = 3 := rfl
  unfold redIdx Lib.idxOfS
  rw [e] at h
  omega
theorem intV_ok (l : List UInt8) : I64 (intV l) := by
  have e1 : intV l = (match Lib.parseIntB 64 l with | .ok v => v | .range => Lib.intSat 64 l | _ => 0) := rfl
  have hsat : I64 (Lib.intSat 64 l) := by
    unfold Lib.intSat I64
    split <;> decide
  cases h : Lib.parseIntB 64 l with
  | ok v =>
    rw [h] at e1
    rw [Lib.parseIntB_64] at h
    rw [e1]
    exact Lib.atoiAll_bounds h
  | range =>
    rw [h] at e1
    rw [e1]
    exact hsat
  | _ =>
    rw [h] at e1
    have e0 : intV l = 0 := e1
    rw [e0]
    unfold I64
    omega
theorem stepP_ok {l : List Int} {c : Cl} (h : c.Ok) (k : Nat) (w : List UInt8) : (stepP l c k w).Ok := by
  unfold stepP
  split
  · exact { h with reqs := (fun n hn => by
      rcases List.mem_append.1 hn with hn | hn
      · exact h.reqs n hn
      · rw [List.mem_singleton.1 hn]
        exact intV_ok w) }
  · split
    · split
      · exact { h with op := (by have := redIdx_ok w; show 0 ≤ redIdx w ∧ redIdx w ≤ 255; omega) }
      · exact setF_ok h (intV_ok w) _
    · exact h
theorem stepP_few (l : List Int) (c : Cl) (k : Nat) (w : List UInt8) : (stepP l c k w).reqs.length ≤ c.reqs.length + 1 := by
  unfold stepP
  split
  · simp
  · split
    · split
      · exact Nat.le_succ _
      · rw [setF_reqs]
        exact Nat.le_succ _
    · exact Nat.le_succ _
theorem candP_is (s : List UInt8) (kd : Int) (ul : List Int) (ws : List (List UInt8)) (hk : callOf ⟨(wordOf s).toArray⟩ = kd) (hu : (usesF kd).getD [] = ul) (hw : wordsOf s = ws) : candP s = foldP ul 0 (kindCl kd) ws := by
  unfold candP
  rw [hk, hu, hw]

set_option maxHeartbeats 32000000 in
set_option maxRecDepth 100000 in
theorem clParse_any (s : ByteArray) (w : World) (hs : s.size ≤ 300) (hT : TextTabs w) (hP : PowIs w) (hL : PrsTabs w) :
    Calls Tryz.prog 8 #[.string s] w (ParsePost s w) := by
  obtain ⟨i1, hi1, hz01, hz11, hz21⟩ := info_parts Tryz.infoInt
  have H1 := Lib.hid (And.intro hi1 (And.intro hz01 (And.intro hz11 hz21)))
  clear hi1 hz01 hz11 hz21
  obtain ⟨w1, hw1⟩ : ∃ y, y = w.alloc (.cells #[.int .u8 0, .int .i64 0, .int .i64 0, .int .i64 0, .int .i64 0, .int .i64 0, .int .i64 0, .int .u8 0, .slice none 0 0, .int .i64 0, .int .i64 0] 24) := ⟨_, rfl⟩
  have e1 : Below w.heap.size w w1 := by rw [hw1]; exact (Below.refl _ _).alloc (Nat.le_refl _) _
  have f1 : ClBlk w1 w.heap.size zeroCl none 0 := by rw [hw1]; exact heap_alloc_new _ _
  have HT0 := Lib.hid hT
  have HP0 := Lib.hid hP
  have HL0 := Lib.hid hL
  obtain ⟨mx, hmx⟩ := (hL.below e1).most
  have hcut := Tryz.strings_Cut s ⟨#[40]⟩ mx w1 (by omega) hmx
  have hw0 : (Lib.cut s.data.toList [40]).1.length ≤ s.size ∧ (Lib.cut s.data.toList [40]).2.1.length ≤ s.size := by
    unfold Lib.cut
    split
    · simp only [List.length_take, List.length_drop, ← Lib.size_eq]
      omega
    · simp only [← Lib.size_eq, List.length_nil]
      omega
  obtain ⟨W, hW⟩ : ∃ W : ByteArray, (⟨(Lib.cut s.data.toList [40]).1.toArray⟩ : ByteArray) = W := ⟨_, rfl⟩
  obtain ⟨R, hR⟩ : ∃ R : ByteArray, (⟨(Lib.cut s.data.toList [40]).2.1.toArray⟩ : ByteArray) = R := ⟨_, rfl⟩
  have hRs : R.size ≤ 300 := by
    rw [← hR]
    show (Lib.cut s.data.toList [40]).2.1.length ≤ 300
    omega
  simp only [show (⟨#[40]⟩ : ByteArray).data.toList = [40] from rfl, hW, hR] at hcut
  generalize (Lib.cut s.data.toList [40]).2.2 = found at hcut
  have HCUT := Lib.hid hcut
  have HWD := Lib.hid (show callOf ⟨(wordOf s.data.toList).toArray⟩ = callOf W by rw [← hW]; rfl)
  have HF1 := Lib.hid f1
  have HE1 := Lib.hid e1
  obtain ⟨T, hT2⟩ : ∃ T : ByteArray, (⟨(Lib.trimSuffix R.data.toList [41]).toArray⟩ : ByteArray) = T := ⟨_, rfl⟩
  have hTs : T.size ≤ 300 := by
    rw [← hT2]
    show (Lib.trimSuffix R.data.toList [41]).length ≤ 300
    have := Lib.trimSuffix_le R.data.toList [41]
    rw [← Lib.size_eq] at this
    omega
  have HWS := Lib.hid (show wordsOf s.data.toList = Lib.split T.data.toList [44, 32] by
    rw [← hT2, ← hR]
    rfl)
  have HTS := Lib.hid (fun w => Tryz.strings_TrimSuffix R ⟨#[41]⟩ w (by omega))
  simp only [show (⟨#[41]⟩ : ByteArray).data.toList = [41] from rfl, hT2] at HTS
  have hle := Lib.countB_le ⟨#[44, 32]⟩ (by decide) T.size T (Nat.le_refl _)
  have hall := Lib.splitB_all ⟨#[44, 32]⟩ (by decide) 0 _ T rfl
  have his := words_is T
  have HSP := Lib.hid (fun m w (hm : w.cell? ⟨5, 0, none⟩ = some (.int .i64 m)) => Tryz.strings_Split T ⟨#[44, 32]⟩ m w (by omega) hm (by decide))
  rw [← hall] at HSP
  generalize Lib.splitB ⟨#[44, 32]⟩ 0 (Lib.countB T ⟨#[44, 32]⟩) T = LB at *
  have hlb : LB.length ≤ 301 := by omega
  have HLS := Lib.hid (show ∀ x ∈ LB, x.size ≤ 300 from fun x hx => by
    have h := splitK_le [44, 32] _ T.data.toList x.data.toList (by
      have h2 : x.data.toList ∈ Lib.split T.data.toList [44, 32] := by rw [← his]; exact List.mem_map_of_mem hx
      exact h2)
    rw [← Lib.size_eq, ← Lib.size_eq] at h
    omega)
  have HIS := Lib.hid his
  obtain ⟨kd, hkd⟩ : ∃ k, callOf W = k := ⟨_, rfl⟩
  have hkb := callOf_bd W
  rw [hkd] at hkb
  have HCO := Lib.hid (fun w h => hkd ▸ treeCall_any W w h)
  have HKD := Lib.hid hkd
  clear hkd hle hall his hW hR hT2 hcut hw0 hT hP hL e1 f1
  go_enter Tryz.func8, Tryz.ntmps8
  go_upto_region 1 with fail
  rw [← hw1]
  clear hw1
  go_wp2_with fail
  refine HCUT.out.mono ?_
  rintro e w2 ⟨rfl, n2, hw2⟩
  have hb2 : Below w1.heap.size w1 w2 := by rw [hw2]; exact Gr.below ⟨n2, #[], by rw [grow_empty]⟩
  have HF2 := Lib.hid (HF1.out.below hb2)
  have HE2 := Lib.hid (HE1.out.trans (hb2.mono HE1.out.size))
  clear hw2 hb2 HF1 HE1 HCUT hmx
  go_upto_region 2 with fail
  go_wp2_with fail
  refine (HCO.out w2 (HL0.out.below HE2.out).calls).mono ?_
  rintro e w2 ⟨rfl, rfl⟩
  clear HCO
  go_upto_region 3 with fail
  obtain ⟨w3, hw3⟩ : ∃ y, y = w2.alloc (.cells (clCells (kindCl kd) none 0) 24) := ⟨_, rfl⟩
  rw [show w2.alloc (.cells #[.int .u8 kd, .int .i64 0, .int .i64 0, .int .i64 0, .int .i64 0, .int .i64 0, .int .i64 0, .int .u8 0, .slice none 0 0, .int .i64 0, .int .i64 0] 24) = w3 from hw3.symm]
  have e3 : Below w2.heap.size w2 w3 := by rw [hw3]; exact (Below.refl _ _).alloc (Nat.le_refl _) _
  have HF3 := Lib.hid (HF2.out.below e3)
  have HQ3 := Lib.hid (show ClBlk w3 w2.heap.size (kindCl kd) none 0 by rw [hw3]; exact ClBlk.new)
  have HE3 := Lib.hid (HE2.out.trans (e3.mono HE2.out.size))
  have HQ0 := Lib.hid HF2.out.lt
  clear hw3 e3 HF2 HE2
  generalize w2.heap.size = q7 at *
  obtain ⟨m3, hm3⟩ := (HL0.out.below HE3.out).most
  have HSP3 := Lib.hid (HSP.out m3 w3 hm3)
  clear hm3 HSP
  go_wp2_with fail
  refine (HTS.out _).mono ?_
  rintro e w3 ⟨rfl, rfl⟩
  go_wp2_with fail
  refine HSP3.out.mono ?_
  rintro e w4 ⟨rfl, hw4⟩
  have hb4 : Below w3.heap.size w3 w4 := by rw [hw4]; exact (Below.refl _ _).alloc (Nat.le_refl _) _
  have HLB := Lib.hid (show BlkT w4 w3.heap.size 9 (LB.map Value.string).toArray by rw [hw4]; exact heap_alloc_new _ _)
  have HF4 := Lib.hid (HF3.out.below hb4)
  have HQ4 := Lib.hid (HQ3.out.below hb4)
  have HE4 := Lib.hid (HE3.out.trans (hb4.mono HE3.out.size))
  have HQL := Lib.hid (show q7 < w3.heap.size from HQ3.out.lt)
  clear hw4 hb4 HF3 HQ3 HE3 HSP3 HTS
  generalize w3.heap.size = b0 at *
  have g0 := HQ4.out.at.g0
  go_upto_region 4 with fail
  refine wp_region_rel (fun w' => Below w4.heap.size w4 w') (goodBy [(28, .such UsesAt UsesAt.stay), (29, .is (.pointer (some ⟨q7, 0, none⟩))), (30, .is (.int .u8 kd)), (31, .such (UsesOwn kd) (UsesOwn.stay kd)), (9, .such (UsesOwn kd) (UsesOwn.stay kd))]) (by first | assumption | kernel_rfl) (by first | rfl | kernel_rfl) (Below.refl _ _).drew ?_ ?_
  · intro i o ho ρ wx hCx hout hcon hdep
    have x7 : ρ (.tmp 7) = .pointer (some ⟨q7, 0, none⟩) := hout 7 (by decide)
    have y0 := cell_later hCx g0
    have xc : ∀ c : Value, ρ (.const c) = c := fun c => hcon (.const c) (fun t h => by cases h)
    have xf : ∀ f : FuncId, ρ (.func f) = .func (.func f) #[] #[] := fun f => hcon (.func f) (fun t h => by cases h)
    match i, ho with
    | 0, ho =>
      simp only [List.getElem?_toArray, List.getElem?_cons_zero, List.getElem?_cons_succ, Option.some.injEq] at ho
      subst ho
      generalize hR : (fun (u : Value) (w' : World) => Below w4.heap.size w4 w' ∧ _) = R
      clear hout hcon hdep
      go_simp
      rw [stepOk_enter]
      refine (uses_any wx).mono ?_
      rintro e w2 ⟨r, a, b, c1, d, x, f, g, h, rfl, hI, hb2⟩
      subst hR
      exact ⟨_, rfl, hCx.trans (hb2.mono hCx.size), goodBy_stay hb2, fun d hd => (by obtain rfl : 28 = d := Option.some.inj hd; exact ⟨_, r, a, b, c1, _, x, f, g, h, rfl, hI⟩)⟩
    | 1, ho =>
      simp only [List.getElem?_toArray, List.getElem?_cons_zero, List.getElem?_cons_succ, Option.some.injEq] at ho
      subst ho
      generalize hR : (fun (u : Value) (w' : World) => Below w4.heap.size w4 w' ∧ _) = R
      clear hout hcon hdep
      go_simp
      subst hR
      exact ⟨hCx, fun s u h => h, fun d hd => (by obtain rfl : 29 = d := Option.some.inj hd; exact rfl)⟩
    | 2, ho =>
      simp only [List.getElem?_toArray, List.getElem?_cons_zero, List.getElem?_cons_succ, Option.some.injEq] at ho
      subst ho
      have d29 := hdep ⟨1, .data⟩ (by simp) rfl _ rfl 29 rfl
      change ρ (.tmp 29) = _ at d29
      generalize hR : (fun (u : Value) (w' : World) => Below w4.heap.size w4 w' ∧ _) = R
      clear hout hcon hdep
      go_simp
      subst hR
      exact ⟨hCx, fun s u h => h, fun d hd => (by obtain rfl : 30 = d := Option.some.inj hd; exact rfl)⟩
    | 3, ho =>
      simp only [List.getElem?_toArray, List.getElem?_cons_zero, List.getElem?_cons_succ, Option.some.injEq] at ho
      subst ho
      have d28 := hdep ⟨0, .data⟩ (by simp) rfl _ rfl 28 rfl
      change UsesAt (ρ (.tmp 28)) wx at d28
      have d30 := hdep ⟨2, .data⟩ (by simp) rfl _ rfl 30 rfl
      change ρ (.tmp 30) = _ at d30
      generalize hR : (fun (u : Value) (w' : World) => Below w4.heap.size w4 w' ∧ _) = R
      clear hout hcon hdep
      go_simp
      obtain ⟨t, ht, hU⟩ := look_own kd _ wx d28
      go_simp
      subst hR
      exact ⟨hCx, fun s u h => h, fun d hd => (by obtain rfl : 31 = d := Option.some.inj hd; exact hU)⟩
    | 4, ho =>
      simp only [List.getElem?_toArray, List.getElem?_cons_zero, List.getElem?_cons_succ, Option.some.injEq] at ho
      subst ho
      have d31 := hdep ⟨3, .data⟩ (by simp) rfl _ rfl 31 rfl
      change (UsesOwn kd) (ρ (.tmp 31)) wx at d31
      generalize hR : (fun (u : Value) (w' : World) => Below w4.heap.size w4 w' ∧ _) = R
      clear hout hcon hdep
      go_simp
      subst hR
      exact ⟨hCx, fun s u h => h, fun d hd => (by obtain rfl : 9 = d := Option.some.inj hd; exact d31)⟩
    | n + 5, ho => exact absurd ho (by simp)
  · intro uz w9 hC9 hg
    have qU : UsesOwn kd (uz 9) w9 := hg 4 _ rfl 9 rfl
    generalize hds : dstsOf _ = ds
    obtain rfl : ds = [28, 29, 30, 31, 9] := hds.symm.trans rfl
    simp only [List.foldl_cons, List.foldl_nil, List.setIfInBounds_toArray, List.set_cons_zero, List.set_cons_succ]
    clear hg
    have HUS := Lib.hid (show UsesOwn kd (uz 9) w9 from qU)
    clear qU g0
    have HF9 := Lib.hid (HF4.out.below hC9)
    have HQ9 := Lib.hid (HQ4.out.below hC9)
    have HLB9 := Lib.hid (HLB.out.below hC9)
    have HE9 := Lib.hid (HE4.out.trans (hC9.mono HE4.out.size))
    clear hC9 HF4 HQ4 HLB HE4
    obtain ⟨ul, hul, huo⟩ := HUS.out
    have HUL := Lib.hid hul
    have hq79 : q7 < w9.heap.size := HQ9.out.lt
    have HUROW := Lib.hid (show ∀ wx, Kp q7 w9 wx → ∃ (A : Option Addr), uz 9 = .slice A ul.length ul.length ∧ IntRow wx A ul from fun wx hk => by
      rcases huo with ⟨qu, e1, e2⟩ | ⟨e1, e2⟩
      · have hlt : qu < w9.heap.size := (Array.getElem?_eq_some_iff.1 e2).1
        have hne : qu ≠ q7 := by
          rintro rfl
          have h1 : intsObj ul = Obj.cells (clCells (kindCl kd) none 0) 24 (0, 0) := Option.some.inj (e2.symm.trans (show _ = _ from HQ9.out))
          unfold intsObj at h1
          exact absurd (Obj.cells.inj h1).2.1 (by decide)
        exact ⟨_, e1, row_of ((hk.2.2 qu hne hlt).trans e2)⟩
      · subst e2
        exact ⟨none, e1, fun k hk => absurd hk (by simp)⟩)
    obtain ⟨Au, hua, _⟩ := HUROW.out w9 (Kp.refl _ _)
    have HUR := Lib.hid (show ∀ wx, Kp q7 w9 wx → IntRow wx Au ul from fun wx hk => by
      obtain ⟨A2, h1, h2⟩ := HUROW.out wx hk
      rw [hua] at h1
      cases h1
      exact h2)
    rw [hua]
    have hul5 : ul.length ≤ 5 := by rw [← HUL.out]; exact usesF_len _
    have HINF := Lib.hid (usesF_in kd)
    rw [HUL.out] at HINF
    have hbq : b0 ≠ q7 := by have := HQL.out; omega
    have HLBW := Lib.hid (show ∀ wx, Kp q7 w9 wx → BlkT wx b0 9 (LB.map Value.string).toArray from fun wx hk => (hk.2.2 b0 hbq HLB9.out.lt).trans HLB9.out)
    have HQ7 := Lib.hid (show w.heap.size ≤ q7 from Nat.le_of_lt HQ0.out)
    have HBW := Lib.hid (show ∀ wx, Kp q7 w9 wx → Below w.heap.size w wx from fun wx hk => HE9.out.trans (hk.1.mono HQ7.out))
    have HF0 := Lib.hid (show ∀ wx, Kp q7 w9 wx → ClBlk wx w.heap.size zeroCl none 0 from fun wx hk => (hk.2.2 w.heap.size (by have := HQ0.out; omega) HF9.out.lt).trans HF9.out)
    have HWL := Lib.hid (show wordsOf s.data.toList = LB.map (·.data.toList) by rw [HWS.out, HIS.out])
    have HQK := Lib.hid hq79
    clear HUS hul huo HUROW hua HLB9 HE9 HF9 hbq hq79
    go_wp2_with fail
    go_loopg [34] (LB.length + 1) (fun g2 i wx => ∃ (k : Nat) (d : Cl) (B : Option Addr) (cb : Nat), i = .int .i64 k ∧ k ≤ LB.length ∧ LB.length - k < g2 ∧ d.reqs.length ≤ k ∧ Hid (foldP ul 0 (kindCl kd) ((LB.map (·.data.toList)).take k) = d) ∧ Hid d.Ok ∧ Hid (ClBlk wx q7 d B cb) ∧ Hid (wx.ownsRow w9.heap.size 3 1 (.slice B d.reqs.length cb) d.reqs.length (d.reqs.map (Value.int .i64))) ∧ Hid (Kp q7 w9 wx))
    case atStart => exact ⟨0, kindCl kd, none, 0, rfl, by omega, by omega, by simp [kindCl], Lib.hid rfl, Lib.hid (kindCl_ok (by omega)), HQ9, Lib.hid (World.ownsRow_nil _ _ _ _), Lib.hid (Kp.refl _ _)⟩
    case round =>
      clear HQ9
      obtain ⟨k, d, B, cb, rfl, hk, hg2, hdk, HD, HOK, HQB, HOW, HK⟩ := hrel
      obtain ⟨g, rfl⟩ : ∃ g, gk = g + 1 := ⟨gk - 1, by omega⟩
      by_cases hlt : k < LB.length
      · have HST := Lib.hid (show foldP ul 0 (kindCl kd) ((LB.map (·.data.toList)).take (k + 1)) = stepP ul d k LB[k].data.toList by
          rw [foldP_take ul _ 0 k (kindCl kd) LB[k].data.toList (by rw [List.getElem?_map, List.getElem?_eq_getElem hlt]; rfl), HD.out, Nat.zero_add])
        have HOK2 := Lib.hid (stepP_ok (l := ul) HOK.out k LB[k].data.toList)
        have HFEW := Lib.hid (stepP_few ul d k LB[k].data.toList)
        have c0 := (HLBW.out wr HK.out).cell k (.string LB[k]) (by simp [List.getElem?_eq_getElem hlt])
        have hxs := HLS.out LB[k] (List.getElem_mem hlt)
        generalize LB[k] = X at *
        have HPI := Lib.hid (pint16 X (by omega) wr (HL0.out.below (HBW.out wr HK.out)))
        go_upto_region 8 with fail
        go_wp2_with fail
        refine HPI.out.mono ?_
        rintro e wy ⟨er, rfl, hv, hby⟩
        have HV := Lib.hid hv
        have HK2 := Lib.hid (HK.out.later HQK.out hby)
        have HQB2 := Lib.hid (HQB.out.below hby)
        have HOW2 := Lib.hid (own_below5 HOW.out hby)
        clear hv hby HPI c0 HK HQB HOW HD
        obtain ⟨vx, hvx⟩ : ∃ v, intV X.data.toList = v := ⟨_, rfl⟩
        rw [hvx] at HV ⊢
        have HVX := Lib.hid hvx
        clear hvx
        rcases Nat.eq_zero_or_pos ul.length with hu0 | hu0
        · have hn0 : ul = [] := List.eq_nil_of_length_eq_zero hu0
          have HS2 := Lib.hid (show stepP ul d k X.data.toList = d by rw [hn0]; simp [stepP])
          subst hn0
          clear hu0
          go_wp2_with fail
          go_roundg g
          case measure => omega
          case rel => exact ⟨k + 1, d, B, cb, by go_num, by omega, by omega, by omega, Lib.hid (by rw [HST.out, HS2.out]), HOK, HQB2, HOW2, HK2⟩
        · have hd0 : decide (0 < ul.length) = true := by simpa using hu0
          obtain ⟨bu, ou, rfl, _, u0⟩ := (HUR.out wy HK2.out) 0 hu0
          rw [Nat.add_zero] at u0
          have HU0 := Lib.hid (show ul[0]? = some ul[0] from List.getElem?_eq_getElem hu0)
          obtain ⟨l0, hl0⟩ : ∃ x, ul[0] = x := ⟨_, rfl⟩
          rw [hl0] at u0 HU0
          clear hl0
          by_cases h8 : l0 = 8
          · subst h8
            have HS2 := Lib.hid (show stepP ul d k X.data.toList = { d with reqs := d.reqs ++ [vx] } by
              unfold stepP
              rw [if_pos HU0.out, HVX.out])
            have p8 := HQB2.out.at.g8
            go_upto_region 10 with fail
            have hab : Below wy.heap.size wy (wy.alloc (.cells #[.int .i64 vx] 3)) := (Below.refl _ _).alloc (Nat.le_refl _) _
            have HO7 := Lib.hid (HOW2.out.alloc (.cells #[.int .i64 vx] 3))
            have HK7 := Lib.hid (HK2.out.later HQK.out hab)
            have HQ77 := Lib.hid (HQB2.out.below hab)
            have HNEWS := Lib.hid (World.news_of_block (w := wy.alloc (.cells #[.int .i64 vx] 3)) (B := wy.heap.size) (cs := #[.int .i64 vx]) (t := 3) (fr := (0, 0)) (heap_alloc_new _ _))
            have HONE := Lib.hid (show ∀ y ∈ [Value.int .i64 vx], y.oneCell' = true by simp [Value.oneCell'])
            have H63 := Lib.hid (show d.reqs.length + 1 ≤ maxLen by unfold maxLen; omega)
            have HBY := Lib.hid (show (d.reqs.length + 1) * 8 ≤ 140737488355328 by omega)
            have HBASE := Lib.hid (show w9.heap.size ≤ (wy.alloc (.cells #[.int .i64 vx] 3)).heap.size from HK7.out.2.1)
            clear hab u0
            go_wp2_with (at_builtin; refine wpList_append_lies _ rfl (.tmp 55) (.tmp 57) 22 rfl w9.heap.size 3 i1 _ 1 8 Tryz.underlying22 H1.out.1 H1.out.2.1 H1.out.2.2.1 H1.out.2.2.2 rfl (by decide) (.slice B d.reqs.length cb) d.reqs.length _ rfl HO7.out ⟨wy.heap.size, 0, none⟩ 1 1 [Value.int .i64 vx] rfl rfl HNEWS.out HONE.out (by decide) H63.out HBY.out HBASE.out _ rfl ?_)
            intro g3 cp3 w8 hown hgrow _ _
            have hne := own_ne_blk HO7.out HQ77.out (by decide)
            have hq8 : ClBlk w8 q7 d B cb := (hgrow.block _ HQ77.out.lt (fun e => hne e.symm)).trans HQ77.out
            have hk8 : Kp q7 w9 w8 := HK7.out.grown HQK.out hgrow (fun g e => (HO7.out.lt g e).1)
            have p8' := hq8.at.g8
            have f8 := hq8.fz 8
            have l8 := hq8.lt
            have HQ8 := Lib.hid (show ClBlk (w8.setCell ⟨q7, 8, none⟩ (.slice (some ⟨g3, 0, none⟩) (d.reqs.length + 1) cp3)) q7 { d with reqs := d.reqs ++ [vx] } (some ⟨g3, 0, none⟩) cp3 from by
              have h := CBlk.set hq8 8 (.slice (some ⟨g3, 0, none⟩) (d.reqs.length + 1) cp3)
              simpa [CBlk, ClBlk, clCells] using h)
            have HO8 := Lib.hid (ownsRow_setCell_other hown (a := ⟨q7, 8, none⟩) (own_ne_blk hown hq8 (by decide)) (.slice (some ⟨g3, 0, none⟩) (d.reqs.length + 1) cp3))
            have HK8 := Lib.hid (hk8.set 8 (.slice (some ⟨g3, 0, none⟩) (d.reqs.length + 1) cp3))
            clear hq8 hk8 hown hgrow hne HO7 HK7 HQ77 HNEWS HONE H63 HBY HBASE
            go_wp2_with fail
            go_roundg g
            case measure => omega
            case rel => exact ⟨k + 1, { d with reqs := d.reqs ++ [vx] }, some ⟨g3, 0, none⟩, cp3, by go_num, by omega, by omega, by simp; omega, Lib.hid (by rw [HST.out, HS2.out]), Lib.hid (HS2.out ▸ HOK2.out), HQ8, Lib.hid (by simpa using HO8.out), HK8⟩
          · have hd8 : (l0 == 8) = false := by simpa using h8
            have h8o : ul[0]? ≠ some 8 := by rw [HU0.out]; simpa using h8
            have H8O := Lib.hid h8o
            clear h8 h8o
            by_cases hku : k < ul.length
            · have hdk2 : decide (k < ul.length) = true := by simpa using hku
              obtain ⟨b5, o5, e5, _, uk⟩ := (HUR.out wy HK2.out) k hku
              cases e5
              have HUK := Lib.hid (show ul[k]? = some ul[k] from List.getElem?_eq_getElem hku)
              have HIN := Lib.hid (HINF.out ul[k] (List.getElem_mem hku))
              generalize ul[k] = f at *
              by_cases hf9 : f = 9
              · subst hf9
                have HS2 := Lib.hid (show stepP ul d k X.data.toList = { d with op := redIdx X.data.toList } by
                  unfold stepP
                  rw [if_neg H8O.out, HUK.out]
                  rfl)
                have hb9 : Below w.heap.size w wy := HBW.out wy HK2.out
                have HIX := Lib.hid (Tryz.slices_Index_string 1 0 3 3 redsB X wy (by decide) (by decide) (fun j hj => by
                  rw [Nat.zero_add, (HT0.out.below hb9).reds j hj]
                  match j, hj with
                  | 0, _ | 1, _ | 2, _ => rfl
                  | n + 3, h => exact absurd h (by simp [redsB])))
                rw [show redsB.take 3 = redsB from rfl] at HIX
                have hgr : 1 < wy.heap.size := World.block_lt_of_cell? wy _ ((HT0.out.below hb9).reds 0 (by decide))
                obtain ⟨ix, hix⟩ : ∃ x, Lib.idxOfS redsB X = x := ⟨_, rfl⟩
                have hixb := idxFromS_bd X redsB 0
                have hix0 : Lib.idxFromS redsB X 0 = ix := hix
                rw [hix0, show redsB.length = 3 from rfl] at hixb
                have HRI := Lib.hid (show redIdx X.data.toList = max 0 ix by rw [← hix]; rfl)
                rw [hix] at HIX
                clear hix hix0 hb9
                have p7 := HQB2.out.at.g7
                have f7 := HQB2.out.fz 7
                have l7 := HQB2.out.lt
                obtain ⟨rn, hrn, hrn2, hix2⟩ : ∃ rn : Nat, max 0 ix = (rn : Int) ∧ rn < 3 ∧ (ix = -1 ∧ rn = 0 ∨ ix = (rn : Int)) := by
                  rcases Int.lt_or_le ix 0 with h | h
                  · exact ⟨0, by omega, by omega, .inl ⟨by omega, rfl⟩⟩
                  · exact ⟨ix.toNat, by omega, by omega, .inr (by omega)⟩
                rw [hrn] at HRI
                have HQ8 := Lib.hid (show ClBlk (wy.setCell ⟨q7, 7, none⟩ (.int .u8 (rn : Int))) q7 { d with op := (rn : Int) } B cb from by
                  have h := CBlk.set HQB2.out 7 (.int .u8 (rn : Int))
                  simpa [CBlk, ClBlk, clCells] using h)
                have HO8 := Lib.hid (ownsRow_setCell_other HOW2.out (a := ⟨q7, 7, none⟩) (own_ne_blk HOW2.out HQB2.out (by decide)) (.int .u8 (rn : Int)))
                have HK8 := Lib.hid (HK2.out.set 7 (.int .u8 (rn : Int)))
                have hwr : IntKind.u8.wrap (rn : Int) = (rn : Int) := IntWalk.u8_in _ (by omega)
                clear hixb hrn
                go_upto_region 12 with fail
                rcases hix2 with ⟨rfl, rfl⟩ | rfl
                all_goals
                  go_wp2_with fail
                  refine HIX.out.mono ?_
                  rintro e wy ⟨rfl, rfl⟩
                  clear HIX u0 uk
                  go_wp2_with fail
                  go_roundg g
                  case measure => omega
                  case rel => exact ⟨k + 1, { d with op := _ }, B, cb, by go_num, by omega, by omega, by show d.reqs.length ≤ k + 1; omega, Lib.hid (by rw [HST.out, HS2.out, HRI.out]), Lib.hid (by have h := HOK2.out; rw [HS2.out, HRI.out] at h; exact h), HQ8, HO8, HK8⟩
              · have hd9 : (f == 9) = false := by simpa using hf9
                obtain ⟨fn, rfl, hf10⟩ := HIN.out
                have HS2 := Lib.hid (show stepP ul d k X.data.toList = setF d vx fn by
                  unfold stepP
                  rw [if_neg H8O.out, HUK.out, HVX.out]
                  show (if (fn : Int) = 9 then _ else _) = _
                  rw [if_neg hf9]
                  rfl)
                have HS := Lib.hid (set_any fn hf10 vx d B cb q7 wy HQB2.out)
                clear hf9 HIN
                go_wp2_with fail
                refine HS.out.mono ?_
                rintro e wz ⟨rfl, HD2, hz⟩
                have hkz : Kp q7 w9 wz ∧ wz.ownsRow w9.heap.size 3 1 (.slice B d.reqs.length cb) d.reqs.length (d.reqs.map (Value.int .i64)) := by
                  rcases hz with rfl | ⟨j, v, rfl⟩
                  · exact ⟨HK2.out, HOW2.out⟩
                  · exact ⟨HK2.out.set j v, ownsRow_setCell_other HOW2.out (a := ⟨q7, j, none⟩) (own_ne_blk HOW2.out HQB2.out (by decide)) v⟩
                have HKZ := Lib.hid hkz
                have HDZ := Lib.hid HD2
                clear hkz HD2 hz HS u0 uk
                go_wp2_with fail
                go_roundg g
                case measure => omega
                case rel => exact ⟨k + 1, setF d vx fn, B, cb, by go_num, by omega, by omega, by rw [setF_reqs]; omega, Lib.hid (by rw [HST.out, HS2.out]), Lib.hid (HS2.out ▸ HOK2.out), HDZ, Lib.hid (by rw [setF_reqs]; exact HKZ.out.2), Lib.hid HKZ.out.1⟩
            · have hdk2 : decide (k < ul.length) = false := by simpa using hku
              have HS2 := Lib.hid (show stepP ul d k X.data.toList = d by
                unfold stepP
                rw [if_neg H8O.out, List.getElem?_eq_none (by omega)])
              go_wp2_with fail
              go_roundg g
              case measure => omega
              case rel => exact ⟨k + 1, d, B, cb, by go_num, by omega, by omega, by omega, Lib.hid (by rw [HST.out, HS2.out]), HOK, HQB2, HOW2, HK2⟩
      · obtain rfl : k = LB.length := by omega
        have HCA := Lib.hid (show candP s.data.toList = d by
          rw [candP_is s.data.toList kd ul (LB.map (·.data.toList)) (by rw [HWD.out, HKD.out]) HUL.out HWL.out, ← HD.out, List.take_of_length_le (by simp)])
        have HBX := Lib.hid (HBW.out wr HK.out)
        have hdl : d.reqs.length ≤ 301 := by omega
        have HIR := Lib.hid (show IntApart wr B d.reqs w.heap.size w.heap.size from ⟨intRow_of_own HOW.out, fun a ha => by
          subst ha
          have := (HOW.out.lt a.block rfl).1
          have := HQK.out
          have := HQ7.out
          exact ⟨by omega, by omega⟩⟩)
        have HTX := Lib.hid (clText_any d B cb wr HOK.out HIR.out.1 (by omega) (HT0.out.below HBX.out) (HP0.out.below HBX.out))
        have HFZ0 := Lib.hid (HF0.out wr HK.out)
        have p0 := HQB.out.at.g0
        have p1 := HQB.out.at.g1
        have p2 := HQB.out.at.g2
        have p3 := HQB.out.at.g3
        have p4 := HQB.out.at.g4
        have p5 := HQB.out.at.g5
        have p6 := HQB.out.at.g6
        have p7 := HQB.out.at.g7
        have p8 := HQB.out.at.g8
        have p9 := HQB.out.at.g9
        have pA := HQB.out.at.gA
        go_upto_region 16 with fail
        go_wp2_with fail
        refine HTX.out.mono ?_
        rintro e wz htp
        obtain ⟨rfl, hbz⟩ := htp
        have HFZ := Lib.hid (HFZ0.out.below hbz)
        have HQZ := Lib.hid (HQB.out.below hbz)
        have HIZ := Lib.hid (show IntApart wz B d.reqs w.heap.size w.heap.size from ⟨HIR.out.1.below hbz, HIR.out.2⟩)
        have HBZ := Lib.hid (HBX.out.trans (hbz.mono HBX.out.size))
        clear hbz HTX HFZ0 HIR HBX HOW HK HQB p0 p1 p2 p3 p4 p5 p6 p7 p8 p9 pA
        have HUN := Lib.hid (show ∀ e : Cl, e.Ok → textB e = true → (⟨(clText e ((usesF e.kind).getD [])).toArray⟩ : ByteArray) = s → e = d from fun e h1 h2 h3 => by
          rw [← HCA.out, ← h3]
          exact (candP_text e h1 h2).symm)
        obtain ⟨TX, hTX⟩ : ∃ TX : ByteArray, (⟨(textOfC d).toArray⟩ : ByteArray) = TX := ⟨_, rfl⟩
        rw [hTX]
        have HTXB := Lib.hid hTX
        clear hTX
        have HQ00 := Lib.hid (Nat.le_refl w.heap.size)
        cases htb : textB d
        case false =>
          have HER := Lib.hid (show errOfC d = 160 by unfold errOfC; rw [htb]; rfl)
          have HNO := Lib.hid (show ∀ e : Cl, e.Ok → textB e = true → (⟨(clText e ((usesF e.kind).getD [])).toArray⟩ : ByteArray) ≠ s from fun e h1 h2 h3 => by
            have := HUN.out e h1 h2 h3
            rw [this, htb] at h2
            cases h2)
          rw [HER.out]
          clear htb
          have f0 := HFZ.out.fz 0
          have f1 := HFZ.out.fz 1
          have f2 := HFZ.out.fz 2
          have f3 := HFZ.out.fz 3
          have f4 := HFZ.out.fz 4
          have f5 := HFZ.out.fz 5
          have f6 := HFZ.out.fz 6
          have f7 := HFZ.out.fz 7
          have f8 := HFZ.out.fz 8
          have f9 := HFZ.out.fz 9
          have fA := HFZ.out.fz 10
          have rl := HFZ.out.lt
          have r0 := HFZ.out.at.g0
          have r1 := HFZ.out.at.g1
          have r2 := HFZ.out.at.g2
          have r3 := HFZ.out.at.g3
          have r4 := HFZ.out.at.g4
          have r5 := HFZ.out.at.g5
          have r6 := HFZ.out.at.g6
          have r7 := HFZ.out.at.g7
          have r8 := HFZ.out.at.g8
          have r9 := HFZ.out.at.g9
          have rA := HFZ.out.at.gA
          go_wp2_with fail
          have hZ : CBlk (((((((((((wz.setCell ⟨w.heap.size, 0, none⟩ (.int .u8 0)).setCell ⟨w.heap.size, 1, none⟩ (.int .i64 0)).setCell ⟨w.heap.size, 2, none⟩ (.int .i64 0)).setCell ⟨w.heap.size, 3, none⟩ (.int .i64 0)).setCell ⟨w.heap.size, 4, none⟩ (.int .i64 0)).setCell ⟨w.heap.size, 5, none⟩ (.int .i64 0)).setCell ⟨w.heap.size, 6, none⟩ (.int .i64 0)).setCell ⟨w.heap.size, 7, none⟩ (.int .u8 0)).setCell ⟨w.heap.size, 8, none⟩ (.slice none 0 0)).setCell ⟨w.heap.size, 9, none⟩ (.int .i64 0)).setCell ⟨w.heap.size, 10, none⟩ (.int .i64 0)) w.heap.size #[.int .u8 0, .int .i64 0, .int .i64 0, .int .i64 0, .int .i64 0, .int .i64 0, .int .i64 0, .int .u8 0, .slice none 0 0, .int .i64 0, .int .i64 0] := fill_blk HFZ.out rfl (.int .u8 0) (.int .i64 0) (.int .i64 0) (.int .i64 0) (.int .i64 0) (.int .i64 0) (.int .i64 0) (.int .u8 0) (.slice none 0 0) (.int .i64 0) (.int .i64 0)
          have x0 := hZ.cell 0 (.int .u8 0) rfl
          have x1 := hZ.cell 1 (.int .i64 0) rfl
          have x2 := hZ.cell 2 (.int .i64 0) rfl
          have x3 := hZ.cell 3 (.int .i64 0) rfl
          have x4 := hZ.cell 4 (.int .i64 0) rfl
          have x5 := hZ.cell 5 (.int .i64 0) rfl
          have x6 := hZ.cell 6 (.int .i64 0) rfl
          have x7 := hZ.cell 7 (.int .u8 0) rfl
          have x8 := hZ.cell 8 (.slice none 0 0) rfl
          have x9 := hZ.cell 9 (.int .i64 0) rfl
          have xA := hZ.cell 10 (.int .i64 0) rfl
          refine bodyPost_ret (v := .tuple #[.agg #[.int .u8 0, .int .i64 0, .int .i64 0, .int .i64 0, .int .i64 0, .int .i64 0, .int .i64 0, .int .u8 0, .slice none 0 0, .int .i64 0, .int .i64 0], .int .i64 160]) (by simp [results, Tryz.results8, go_sem, x0, x1, x2, x3, x4, x5, x6, x7, x8, x9, xA]) rfl ?_
          exact ⟨zeroCl, none, 0, 160, rfl, fun k hk => absurd hk (by simp [zeroCl]), fill_below HBZ.out HQ00.out (.int .u8 0) (.int .i64 0) (.int .i64 0) (.int .i64 0) (.int .i64 0) (.int .i64 0) (.int .i64 0) (.int .u8 0) (.slice none 0 0) (.int .i64 0) (.int .i64 0), .inr ⟨rfl, rfl, HNO.out⟩⟩
        case true =>
          have HER := Lib.hid (show errOfC d = 0 by unfold errOfC; rw [htb]; rfl)
          have HTT := Lib.hid (show (⟨(clText d ((usesF d.kind).getD [])).toArray⟩ : ByteArray) = TX by
            rw [← HTXB.out]
            unfold textOfC
            rw [htb, if_pos rfl])
          have HTB := Lib.hid htb
          rw [HER.out]
          clear htb
          cases hcmp : (TX.toList == s.toList)
          case false =>
            have HNO := Lib.hid (show ∀ e : Cl, e.Ok → textB e = true → (⟨(clText e ((usesF e.kind).getD [])).toArray⟩ : ByteArray) ≠ s from fun e h1 h2 h3 => by
              have h4 := HUN.out e h1 h2 h3
              rw [h4, HTT.out] at h3
              rw [h3] at hcmp
              simp at hcmp)
            have f0 := HFZ.out.fz 0
            have f1 := HFZ.out.fz 1
            have f2 := HFZ.out.fz 2
            have f3 := HFZ.out.fz 3
            have f4 := HFZ.out.fz 4
            have f5 := HFZ.out.fz 5
            have f6 := HFZ.out.fz 6
            have f7 := HFZ.out.fz 7
            have f8 := HFZ.out.fz 8
            have f9 := HFZ.out.fz 9
            have fA := HFZ.out.fz 10
            have rl := HFZ.out.lt
            have r0 := HFZ.out.at.g0
            have r1 := HFZ.out.at.g1
            have r2 := HFZ.out.at.g2
            have r3 := HFZ.out.at.g3
            have r4 := HFZ.out.at.g4
            have r5 := HFZ.out.at.g5
            have r6 := HFZ.out.at.g6
            have r7 := HFZ.out.at.g7
            have r8 := HFZ.out.at.g8
            have r9 := HFZ.out.at.g9
            have rA := HFZ.out.at.gA
            go_wp2_with fail
            have hZ : CBlk (((((((((((wz.setCell ⟨w.heap.size, 0, none⟩ (.int .u8 0)).setCell ⟨w.heap.size, 1, none⟩ (.int .i64 0)).setCell ⟨w.heap.size, 2, none⟩ (.int .i64 0)).setCell ⟨w.heap.size, 3, none⟩ (.int .i64 0)).setCell ⟨w.heap.size, 4, none⟩ (.int .i64 0)).setCell ⟨w.heap.size, 5, none⟩ (.int .i64 0)).setCell ⟨w.heap.size, 6, none⟩ (.int .i64 0)).setCell ⟨w.heap.size, 7, none⟩ (.int .u8 0)).setCell ⟨w.heap.size, 8, none⟩ (.slice none 0 0)).setCell ⟨w.heap.size, 9, none⟩ (.int .i64 0)).setCell ⟨w.heap.size, 10, none⟩ (.int .i64 0)) w.heap.size #[.int .u8 0, .int .i64 0, .int .i64 0, .int .i64 0, .int .i64 0, .int .i64 0, .int .i64 0, .int .u8 0, .slice none 0 0, .int .i64 0, .int .i64 0] := fill_blk HFZ.out rfl (.int .u8 0) (.int .i64 0) (.int .i64 0) (.int .i64 0) (.int .i64 0) (.int .i64 0) (.int .i64 0) (.int .u8 0) (.slice none 0 0) (.int .i64 0) (.int .i64 0)
            have x0 := hZ.cell 0 (.int .u8 0) rfl
            have x1 := hZ.cell 1 (.int .i64 0) rfl
            have x2 := hZ.cell 2 (.int .i64 0) rfl
            have x3 := hZ.cell 3 (.int .i64 0) rfl
            have x4 := hZ.cell 4 (.int .i64 0) rfl
            have x5 := hZ.cell 5 (.int .i64 0) rfl
            have x6 := hZ.cell 6 (.int .i64 0) rfl
            have x7 := hZ.cell 7 (.int .u8 0) rfl
            have x8 := hZ.cell 8 (.slice none 0 0) rfl
            have x9 := hZ.cell 9 (.int .i64 0) rfl
            have xA := hZ.cell 10 (.int .i64 0) rfl
            refine bodyPost_ret (v := .tuple #[.agg #[.int .u8 0, .int .i64 0, .int .i64 0, .int .i64 0, .int .i64 0, .int .i64 0, .int .i64 0, .int .u8 0, .slice none 0 0, .int .i64 0, .int .i64 0], .int .i64 160]) (by simp [results, Tryz.results8, go_sem, x0, x1, x2, x3, x4, x5, x6, x7, x8, x9, xA]) rfl ?_
            exact ⟨zeroCl, none, 0, 160, rfl, fun k hk => absurd hk (by simp [zeroCl]), fill_below HBZ.out HQ00.out (.int .u8 0) (.int .i64 0) (.int .i64 0) (.int .i64 0) (.int .i64 0) (.int .i64 0) (.int .i64 0) (.int .u8 0) (.slice none 0 0) (.int .i64 0) (.int .i64 0), .inr ⟨rfl, rfl, HNO.out⟩⟩
          case true =>
            have HEQ := Lib.hid (show TX = s by
              have h := beq_iff_eq.1 hcmp
              rw [ByteArray.toList_eq, ByteArray.toList_eq] at h
              exact ByteArray.ext (Array.toList_inj.1 h))
            have o0 := HQZ.out.at.g0
            have o1 := HQZ.out.at.g1
            have o2 := HQZ.out.at.g2
            have o3 := HQZ.out.at.g3
            have o4 := HQZ.out.at.g4
            have o5 := HQZ.out.at.g5
            have o6 := HQZ.out.at.g6
            have o7 := HQZ.out.at.g7
            have o8 := HQZ.out.at.g8
            have o9 := HQZ.out.at.g9
            have oA := HQZ.out.at.gA
            have f0 := HFZ.out.fz 0
            have f1 := HFZ.out.fz 1
            have f2 := HFZ.out.fz 2
            have f3 := HFZ.out.fz 3
            have f4 := HFZ.out.fz 4
            have f5 := HFZ.out.fz 5
            have f6 := HFZ.out.fz 6
            have f7 := HFZ.out.fz 7
            have f8 := HFZ.out.fz 8
            have f9 := HFZ.out.fz 9
            have fA := HFZ.out.fz 10
            have rl := HFZ.out.lt
            have r0 := HFZ.out.at.g0
            have r1 := HFZ.out.at.g1
            have r2 := HFZ.out.at.g2
            have r3 := HFZ.out.at.g3
            have r4 := HFZ.out.at.g4
            have r5 := HFZ.out.at.g5
            have r6 := HFZ.out.at.g6
            have r7 := HFZ.out.at.g7
            have r8 := HFZ.out.at.g8
            have r9 := HFZ.out.at.g9
            have rA := HFZ.out.at.gA
            go_wp2_with fail
            have hZ : CBlk (((((((((((wz.setCell ⟨w.heap.size, 0, none⟩ (.int .u8 d.kind)).setCell ⟨w.heap.size, 1, none⟩ (.int .i64 d.comm)).setCell ⟨w.heap.size, 2, none⟩ (.int .i64 d.peer)).setCell ⟨w.heap.size, 3, none⟩ (.int .i64 d.tag)).setCell ⟨w.heap.size, 4, none⟩ (.int .i64 d.value)).setCell ⟨w.heap.size, 5, none⟩ (.int .i64 d.size)).setCell ⟨w.heap.size, 6, none⟩ (.int .i64 d.root)).setCell ⟨w.heap.size, 7, none⟩ (.int .u8 d.op)).setCell ⟨w.heap.size, 8, none⟩ (.slice B d.reqs.length cb)).setCell ⟨w.heap.size, 9, none⟩ (.int .i64 d.color)).setCell ⟨w.heap.size, 10, none⟩ (.int .i64 d.key)) w.heap.size #[.int .u8 d.kind, .int .i64 d.comm, .int .i64 d.peer, .int .i64 d.tag, .int .i64 d.value, .int .i64 d.size, .int .i64 d.root, .int .u8 d.op, .slice B d.reqs.length cb, .int .i64 d.color, .int .i64 d.key] := fill_blk HFZ.out rfl (.int .u8 d.kind) (.int .i64 d.comm) (.int .i64 d.peer) (.int .i64 d.tag) (.int .i64 d.value) (.int .i64 d.size) (.int .i64 d.root) (.int .u8 d.op) (.slice B d.reqs.length cb) (.int .i64 d.color) (.int .i64 d.key)
            have x0 := hZ.cell 0 (.int .u8 d.kind) rfl
            have x1 := hZ.cell 1 (.int .i64 d.comm) rfl
            have x2 := hZ.cell 2 (.int .i64 d.peer) rfl
            have x3 := hZ.cell 3 (.int .i64 d.tag) rfl
            have x4 := hZ.cell 4 (.int .i64 d.value) rfl
            have x5 := hZ.cell 5 (.int .i64 d.size) rfl
            have x6 := hZ.cell 6 (.int .i64 d.root) rfl
            have x7 := hZ.cell 7 (.int .u8 d.op) rfl
            have x8 := hZ.cell 8 (.slice B d.reqs.length cb) rfl
            have x9 := hZ.cell 9 (.int .i64 d.color) rfl
            have xA := hZ.cell 10 (.int .i64 d.key) rfl
            refine bodyPost_ret (v := .tuple #[.agg #[.int .u8 d.kind, .int .i64 d.comm, .int .i64 d.peer, .int .i64 d.tag, .int .i64 d.value, .int .i64 d.size, .int .i64 d.root, .int .u8 d.op, .slice B d.reqs.length cb, .int .i64 d.color, .int .i64 d.key], .int .i64 0]) (by simp [results, Tryz.results8, go_sem, x0, x1, x2, x3, x4, x5, x6, x7, x8, x9, xA]) rfl ?_
            exact ⟨d, B, cb, 0, rfl, (fill_apart HIZ.out (.int .u8 d.kind) (.int .i64 d.comm) (.int .i64 d.peer) (.int .i64 d.tag) (.int .i64 d.value) (.int .i64 d.size) (.int .i64 d.root) (.int .u8 d.op) (.slice B d.reqs.length cb) (.int .i64 d.color) (.int .i64 d.key)).1, fill_below HBZ.out HQ00.out (.int .u8 d.kind) (.int .i64 d.comm) (.int .i64 d.peer) (.int .i64 d.tag) (.int .i64 d.value) (.int .i64 d.size) (.int .i64 d.root) (.int .u8 d.op) (.slice B d.reqs.length cb) (.int .i64 d.color) (.int .i64 d.key), .inl ⟨rfl, HOK.out, HTB.out, by rw [HTT.out, HEQ.out]⟩⟩
end Go.Proofs.YtgphigpbgiceiaaGreatDoor
