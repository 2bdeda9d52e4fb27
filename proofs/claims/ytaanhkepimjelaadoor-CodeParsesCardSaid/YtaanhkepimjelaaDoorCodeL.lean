/- The walk of code.Parse. -/
import Derived.Test.YtaanhkepimjelaaDoorCodeK
import Derived.Test.YtaanhkepimjelaaDoorCodeM
namespace Go.Proofs.YtaanhkepimjelaaDoor
open Go.RowKit Go.Sort
set_option linter.unusedVariables false
set_option linter.unusedSimpArgs false

/-- What a text tells: the program that has it, or none. -/
def POf (s : ByteArray) (q : Cp) (f : Int) : Prop := (q.May ∧ (⟨(cpText q).toArray⟩ : ByteArray) = s ∧ f = 0) ∨ ((∀ q' : Cp, q'.May → (∀ i ∈ q'.code, i.Ok) → (∀ n ∈ q'.arrays, -9223372036854775808 ≤ n ∧ n ≤ 9223372036854775807) → (⟨(cpText q').toArray⟩ : ByteArray) ≠ s) ∧ q = ⟨[], 0, []⟩ ∧ f = 50)
/-- A program that may be is read from its text. -/
theorem read_may {q : Cp} (h : q.May) (hok : ∀ i ∈ q.code, i.Ok) (ha : ∀ n ∈ q.arrays, -9223372036854775808 ≤ n ∧ n ≤ 9223372036854775807) : readP (splitC 10 (cpText q)) = q := by
  obtain ⟨_, _, _, h1, h2, h3, _⟩ := Cp.whole_parts h.1
  exact read_text (fun i hi => fits_op (h3 i hi)) (fun i hi => (hok i hi).2) (by omega) ha
theorem lines_may {q : Cp} (h : q.May) : 4 ≤ (splitC 10 (cpText q)).length ∧ (splitC 10 (cpText q)).length ≤ 4003 := by
  obtain ⟨_, h1, h2, _⟩ := Cp.whole_parts h.1
  rw [lines_of]
  simp only [List.length_cons, List.length_append, List.length_map, List.length_nil]
  omega
theorem splitC_len (c : UInt8) : ∀ (l x : List UInt8), x ∈ splitC c l → x.length ≤ l.length
  | [], x, h => by
    simp only [splitC, List.mem_singleton] at h
    subst h
    exact Nat.le_refl _
  | b :: l, x, h => by
    unfold splitC at h
    split at h
    · rcases List.mem_cons.1 h with rfl | h
      · simp
      · have := splitC_len c l x h
        simp only [List.length_cons]
        omega
    · cases hsl : splitC c l with
      | nil => exact absurd hsl (splitC_ne c l)
      | cons y r =>
        rw [hsl] at h
        have hy := splitC_len c l y (by rw [hsl]; simp)
        rcases List.mem_cons.1 h with rfl | h
        · simp only [List.length_cons]
          omega
        · have := splitC_len c l x (by rw [hsl]; simp [h])
          simp only [List.length_cons]
          omega
theorem trim_len (l p : List UInt8) : (Lib.trimPrefix l p).length ≤ l.length := by
  unfold Lib.trimPrefix
  split
  · rw [List.length_drop]
    omega
  · exact Nat.le_refl _
theorem fields_len : ∀ (f : Nat) (cur l : List UInt8), (Lib.fieldsGoD f cur l).length ≤ f + 1 ∧ ∀ x ∈ Lib.fieldsGoD f cur l, x.length ≤ cur.length + l.length
  | 0, cur, l => by
    unfold Lib.fieldsGoD
    split
    · simp
    · simp
  | f + 1, cur, l => by
    have hc : (if cur = [] then ([] : List (List UInt8)) else [cur]).length ≤ 1 ∧ ∀ x ∈ (if cur = [] then ([] : List (List UInt8)) else [cur]), x.length ≤ cur.length := by
      split
      · simp
      · simp
    unfold Lib.fieldsGoD
    split
    · refine ⟨by omega, fun x hx => ?_⟩
      have := hc.2 x hx
      omega
    · split
      · have h := fields_len f [] (l.drop (Lib.decodeL l).2)
        rw [List.length_drop] at h
        refine ⟨by rw [List.length_append]; omega, fun x hx => ?_⟩
        rcases List.mem_append.1 hx with hx | hx
        · have := hc.2 x hx
          omega
        · have := h.2 x hx
          simp only [List.length_nil] at this
          omega
      · have h := fields_len f (cur ++ l.take (Lib.decodeL l).2) (l.drop (Lib.decodeL l).2)
        rw [List.length_drop, List.length_append, List.length_take] at h
        refine ⟨by omega, fun x hx => ?_⟩
        have := h.2 x hx
        omega
theorem atoiO_bounds {l : List UInt8} {v : Int} (h : atoiO l = some v) : -9223372036854775808 ≤ v ∧ v ≤ 9223372036854775807 := by
  unfold atoiO at h
  split at h
  · rename_i u hu
    injection h with h
    subst h
    exact Lib.atoiAll_bounds hu
  · cases h
theorem PgBlk.other {w : World} {P : Nat} {A : Option Addr} {lc c1 : Nat} {v : Int} {B : Option Addr} {la c2 : Nat} (h : PgBlk w P A lc c1 v B la c2) {b : Nat} (hb : b ≠ P) (j : Nat) (x : Value) : PgBlk (w.setCell ⟨b, j, none⟩ x) P A lc c1 v B la c2 := by
  unfold PgBlk
  rw [heap_setCell_other w ⟨b, j, none⟩ P x (fun e => hb e.symm)]
  exact h
theorem idx_range (x : ByteArray) : ∀ (zs : List ByteArray) (i : Nat), Lib.idxFromS zs x i = -1 ∨ ((i : Int) ≤ Lib.idxFromS zs x i ∧ Lib.idxFromS zs x i < (i + zs.length : Nat))
  | [], i => .inl rfl
  | z :: zs, i => by
    by_cases h : z = x
    · refine .inr ?_
      have e : Lib.idxFromS (z :: zs) x i = i := by simp [Lib.idxFromS, h]
      rw [e, List.length_cons]
      omega
    · have e : Lib.idxFromS (z :: zs) x i = Lib.idxFromS zs x (i + 1) := by simp [Lib.idxFromS, h]
      rw [e, List.length_cons]
      rcases idx_range x zs (i + 1) with h2 | h2
      · exact .inl h2
      · exact .inr (by omega)
theorem intV_range (l : List UInt8) : -9223372036854775808 ≤ intV l ∧ intV l ≤ 9223372036854775807 := by
  unfold intV
  split
  · rename_i v h
    rw [Lib.parseIntB_64] at h
    exact Lib.atoiAll_bounds h
  · unfold Lib.intSat
    split <;> decide
  · decide
theorem line_ok (x : List UInt8) : (lineOf x).Ok := by
  have h := idx_range ⟨(Lib.cut x [32]).1.toArray⟩ opNames 0
  have e : Lib.idxFromS opNames ⟨(Lib.cut x [32]).1.toArray⟩ 0 = Lib.idxOfS opNames ⟨(Lib.cut x [32]).1.toArray⟩ := rfl
  rw [e, opNames_len] at h
  refine ⟨?_, intV_range _⟩
  show 0 ≤ max 0 (Lib.idxOfS opNames ⟨(Lib.cut x [32]).1.toArray⟩) ∧ max 0 (Lib.idxOfS opNames ⟨(Lib.cut x [32]).1.toArray⟩) ≤ 255
  omega
theorem mk_list (l : List UInt8) : (⟨l.toArray⟩ : ByteArray).data.toList = l := rfl
theorem mk_size (l : List UInt8) : (⟨l.toArray⟩ : ByteArray).size = l.length := rfl
theorem cpIn_empty (w : World) : CpIn w none 0 none 0 ⟨[], 0, []⟩ :=
  ⟨fun k hk => absurd hk (by simp), fun k hk => absurd hk (by simp), by simp, by simp, by decide, by decide, by decide⟩
theorem lines_of_text {q : Cp} {s : ByteArray} (h : (⟨(cpText q).toArray⟩ : ByteArray) = s) : splitC 10 s.data.toList = splitC 10 (cpText q) := by
  rw [← h]

set_option maxHeartbeats 8000000 in
set_option maxRecDepth 100000 in
theorem parse_any (s : ByteArray) (hs : s.size ≤ 100000) (w : World) (hT : ParseTabs w) (hC : CodeTabs w) :
    Calls Tryd.prog 21 #[.string s] w fun e w' => ∃ (q : Cp) (f : Int) (A B : Option Addr) (cA cB : Nat), e = .returned (.tuple #[.agg #[.slice A q.code.length cA, .int .i64 q.vars, .slice B q.arrays.length cB], .int .i64 f]) ∧ CpIn w' A cA B cB q ∧ POf s q f ∧ Below w.heap.size w w' := by
  obtain ⟨i1, hi1, hz01, hz11, hz21⟩ := info_parts Tryd.infoInt
  have H1 := Lib.hid (And.intro hi1 (And.intro hz01 (And.intro hz11 hz21)))
  clear hi1 hz01 hz11 hz21
  obtain ⟨i2, hi2, hz02, hz12, hz22⟩ := info_parts Tryd.infoInstr
  have H2 := Lib.hid (And.intro hi2 (And.intro hz02 (And.intro hz12 hz22)))
  clear hi2 hz02 hz12 hz22
  have hb1 : Below w.heap.size w ((w.alloc (.cells #[.slice none 0 0, .int .i64 0, .slice none 0 0] 25)).alloc (.cells #[.slice none 0 0, .int .i64 0, .slice none 0 0] 25)) := ((Below.refl _ _).alloc (Nat.le_refl _) _).alloc (by simp) _
  have hR1 : PgBlk ((w.alloc (.cells #[.slice none 0 0, .int .i64 0, .slice none 0 0] 25)).alloc (.cells #[.slice none 0 0, .int .i64 0, .slice none 0 0] 25)) w.heap.size none 0 0 0 none 0 0 := PgBlk.new.below ((Below.refl _ _).alloc (Nat.le_refl _) _)
  have hP1 : PgBlk ((w.alloc (.cells #[.slice none 0 0, .int .i64 0, .slice none 0 0] 25)).alloc (.cells #[.slice none 0 0, .int .i64 0, .slice none 0 0] 25)) (w.alloc (.cells #[.slice none 0 0, .int .i64 0, .slice none 0 0] 25)).heap.size none 0 0 0 none 0 0 := PgBlk.new
  have HT0 := Lib.hid hT
  have HC0 := Lib.hid hC
  have HT := Lib.hid (hT.below hb1)
  have HC := Lib.hid (hC.below hb1)
  have HB := Lib.hid hb1
  clear hT hC hb1
  go_enter Tryd.func21, Tryd.ntmps21
  go_upto_region 2 with fail
  generalize (w.alloc (.cells #[.slice none 0 0, .int .i64 0, .slice none 0 0] 25)).alloc (.cells #[.slice none 0 0, .int .i64 0, .slice none 0 0] 25) = w1 at *
  have hsz : (w.alloc (.cells #[.slice none 0 0, .int .i64 0, .slice none 0 0] 25)).heap.size = w.heap.size + 1 := by simp
  rw [hsz] at hP1
  have HR1 := Lib.hid hR1
  have HP1 := Lib.hid hP1
  clear hR1 hP1 hsz
  obtain ⟨m, hm⟩ := HT.out.most
  have hsp := Tryd.strings_Split s ⟨#[10]⟩ m w1 (by omega) hm (by decide)
  have hle := Lib.countB_le ⟨#[10]⟩ (by decide) s.size s (Nat.le_refl _)
  have hall := Lib.splitB_all ⟨#[10]⟩ (by decide) 0 _ s rfl
  have his := splitB_is 10 s
  rw [← hall] at hsp
  generalize Lib.splitB ⟨#[10]⟩ 0 (Lib.countB s ⟨#[10]⟩) s = LB at *
  have hlb : LB.length ≤ 100001 := by omega
  have hls : ∀ x ∈ LB, x.size ≤ 100000 := fun x hx => by
    have h := splitC_len 10 s.data.toList x.data.toList (by rw [← his]; exact List.mem_map_of_mem hx)
    rw [← Lib.size_eq, ← Lib.size_eq] at h
    omega
  have HSP := Lib.hid hsp
  have HIS := Lib.hid his
  clear hsp his hall hm hle
  go_wp2_with fail
  refine HSP.out.mono ?_
  rintro e w2 ⟨rfl, rfl⟩
  have HOS := Lib.hid (World.ownsRow_lit (base := w.heap.size) (e := 9) (size := 1) w1 (LB.map Value.string).toArray LB.length HB.out.size (by unfold maxLen; omega) (by simp))
  have hb2 : Below w1.heap.size w1 (w1.alloc (.cells (LB.map Value.string).toArray 9)) := (Below.refl _ _).alloc (Nat.le_refl _) _
  have HR2 := Lib.hid (HR1.out.below hb2)
  have HP2 := Lib.hid (HP1.out.below hb2)
  have HB2 := Lib.hid (HB.out.trans (hb2.mono HB.out.size))
  have HT2 := Lib.hid (HT.out.below hb2)
  have HC2 := Lib.hid (HC.out.below hb2)
  clear hb2 HR1 HP1 HB HT HC HSP
  generalize hb0 : w1.heap.size = b0 at *
  clear hb0
  generalize w1.alloc (.cells (LB.map Value.string).toArray 9) = w2 at *
  have r0 := HR2.out.at.g0
  have r1 := HR2.out.at.g1
  have r2 := HR2.out.at.g2
  have f0 := HR2.out.fz 0
  have f1 := HR2.out.fz 1
  have f2 := HR2.out.fz 2
  have rl := HR2.out.lt
  by_cases h4 : LB.length < 3 ∨ 4003 < LB.length
  case pos =>
    have hno : ∀ q' : Cp, q'.May → (∀ i ∈ q'.code, i.Ok) → (∀ n ∈ q'.arrays, -9223372036854775808 ≤ n ∧ n ≤ 9223372036854775807) → (⟨(cpText q').toArray⟩ : ByteArray) ≠ s := fun q' hq _ _ e => by
      have h1 := lines_may hq
      rw [← lines_of_text e, ← HIS.out, List.length_map] at h1
      omega
    have HNO := Lib.hid hno
    clear hno
    have hbz := HB2.out
    have x := fun (y0 y1 y2 : Value) => ((hbz.setCell (p := ⟨w.heap.size, 0, none⟩) (Nat.le_refl _) y0).setCell (p := ⟨w.heap.size, 1, none⟩) (Nat.le_refl _) y1).setCell (p := ⟨w.heap.size, 2, none⟩) (Nat.le_refl _) y2
    have HX := Lib.hid x
    clear hbz x
    rcases h4 with h4 | h4
    all_goals
      go_wp2_with fail
      have hZ := ((HR2.out.set0 none 0 0).set1 0).set2 none 0 0
      have x0 := hZ.at.g0
      have x1 := hZ.at.g1
      have x2 := hZ.at.g2
      refine bodyPost_ret (v := .tuple #[.agg #[.slice none 0 0, .int .i64 0, .slice none 0 0], .int .i64 50]) (by simp [results, Tryd.results21, go_sem, x0, x1, x2]) rfl ?_
      exact ⟨⟨[], 0, []⟩, 50, none, none, 0, 0, rfl, cpIn_empty _, .inr ⟨HNO.out, rfl, rfl⟩, HX.out _ _ _⟩
  case neg =>
    have h43 : 3 ≤ LB.length ∧ LB.length ≤ 4003 := by omega
    clear h4 f0 f1 f2 rl r0 r1 r2
    have hl0 : 0 < LB.length := by omega
    have hl1 : 1 < LB.length := by omega
    have s0 := HOS.out.cellAt 0 (by omega)
    have s1 := HOS.out.cellAt 1 (by omega)
    simp only [List.getElem?_map, List.getElem?_eq_getElem hl0, List.getElem?_eq_getElem hl1, Option.map_some] at s0 s1
    have hz0 := hls LB[0] (List.getElem_mem _)
    have hz1 := hls LB[1] (List.getElem_mem _)
    have e0 : (LB.map (·.data.toList)).getD 0 [] = LB[0].data.toList := by simp [List.getD_eq_getElem?_getD, hl0]
    have e1 : (LB.map (·.data.toList)).getD 1 [] = LB[1].data.toList := by simp [List.getD_eq_getElem?_getD, hl1]
    have HE0 := Lib.hid e0
    have HE1 := Lib.hid e1
    generalize LB[0] = t0 at *
    generalize hlt1 : LB[1] = t1 at *
    have HLT1 := Lib.hid hlt1
    clear e0 e1 hlt1
    have HTP := Lib.hid (Tryd.strings_TrimPrefix t0 ⟨#[118, 97, 114, 115, 32]⟩ w2)
    go_wp2_with fail
    refine HTP.out.mono ?_
    rintro e w2 ⟨rfl, rfl⟩
    have htl := trim_len t0.data.toList [118, 97, 114, 115, 32]
    have hat := atoi_every ⟨(Lib.trimPrefix t0.data.toList [118, 97, 114, 115, 32]).toArray⟩ (by rw [mk_size]; rw [← Lib.size_eq] at htl; omega) w2 HT2.out
    rw [mk_list] at hat
    have HAT := Lib.hid hat
    clear hat htl HTP
    generalize htv : Lib.trimPrefix t0.data.toList [118, 97, 114, 115, 32] = tv at *
    have HTV := Lib.hid htv
    clear htv
    go_wp2_with fail
    refine HAT.out.mono ?_
    rintro e w3 ⟨v, er, rfl, hv, hv0, hv1, _, hb3⟩
    have HV := Lib.hid hv
    have HP3 := Lib.hid (HP2.out.below hb3)
    have HR3 := Lib.hid (HR2.out.below hb3)
    have HOS3 := Lib.hid (own_below5 HOS.out hb3)
    have HT3 := Lib.hid (HT2.out.below hb3)
    have HC3 := Lib.hid (HC2.out.below hb3)
    have HB3 := Lib.hid (HB2.out.trans (hb3.mono HB2.out.size))
    clear hv hb3 HAT HP2 HR2 HOS HT2 HC2 HB2 s0 s1
    have p0 := HP3.out.at.g0
    have p1 := HP3.out.at.g1
    have f1 := HP3.out.fz 1
    have pl := HP3.out.lt
    go_upto_region 6 with fail
    clear p0 p1 f1 pl
    have HP4 := Lib.hid (HP3.out.set1 v)
    have HR4 := Lib.hid (HR3.out.other (show w.heap.size + 1 ≠ w.heap.size by omega) 1 (.int .i64 v))
    have HOS4 := Lib.hid (ownsRow_setCell_other HOS3.out (a := ⟨w.heap.size + 1, 1, none⟩) (own_ne_blk HOS3.out HP3.out (by decide)) (.int .i64 v))
    have HB4 := Lib.hid (HB3.out.setCell (p := ⟨w.heap.size + 1, 1, none⟩) (Nat.le_succ _) (.int .i64 v))
    clear HP3 HR3 HOS3 HT3 HC3 HB3
    generalize w3.setCell ⟨w.heap.size + 1, 1, none⟩ (.int .i64 v) = w4 at *
    have hfl := fields_len (t1.data.toList.length + 1) [] t1.data.toList
    have hfd := Tryd.strings_Fields_any t1 w4 (by omega) (HT0.out.below HB4.out).spaces (HT0.out.below HB4.out).white
    rw [show Lib.fieldsGoD (t1.data.toList.length + 1) [] t1.data.toList = Lib.fieldsD t1.data.toList from rfl, ← Lib.size_eq] at hfl
    have s1 := HOS4.out.cellAt 1 (by omega)
    simp only [List.getElem?_map, List.getElem?_eq_getElem hl1, Option.map_some, HLT1.out] at s1
    generalize hF : Lib.fieldsD t1.data.toList = F at *
    have HF := Lib.hid hF
    have HFD := Lib.hid hfd
    have hF1 : F.length ≤ 100002 := by omega
    have HF2 := Lib.hid (fun (x : List UInt8) (hx : x ∈ F) => (show x.length ≤ 100000 by have := hfl.2 x hx; simp only [List.length_nil] at this; omega))
    clear hF hfd hfl
    go_wp2_with fail
    refine HFD.out.mono ?_
    rintro e w5 ⟨Af, rfl, _, hof, hb5⟩
    have HOF5 := Lib.hid (hof.mono HB4.out.size)
    have HOS5 := Lib.hid (own_below5 HOS4.out hb5)
    have HP5 := Lib.hid (HP4.out.below hb5)
    have HR5 := Lib.hid (HR4.out.below hb5)
    have HB5 := Lib.hid (HB4.out.trans (hb5.mono HB4.out.size))
    clear hof hb5 HFD HP4 HR4 HOS4 HB4 s1
    go_wp2_with fail
    go_loopg [44] (F.length + 1) (fun g i wx => ∃ (k n cB : Nat) (Bv : Option Addr), i = .int .i64 k ∧ k ≤ F.length ∧ F.length - k < g ∧ n ≤ k ∧ Hid (n = ((F.take k).filterMap atoiO).length) ∧ Hid (wx.ownsRow w.heap.size 3 1 (.slice Bv n cB) n (((F.take k).filterMap atoiO).map (Value.int .i64))) ∧ Hid (PgBlk wx (w.heap.size + 1) none 0 0 v Bv n cB) ∧ Hid (PgBlk wx w.heap.size none 0 0 0 none 0 0) ∧ Hid (wx.ownsRow w.heap.size 9 1 (.slice (some ⟨b0, 0, none⟩) LB.length LB.length) LB.length (LB.map Value.string).toArray.toList) ∧ Hid (wx.ownsRow w.heap.size 9 1 (.slice (some ⟨Af, 0, none⟩) F.length F.length) F.length (F.map fun x => Value.string ⟨x.toArray⟩)) ∧ Hid (Below w.heap.size w wx))
    case atStart => exact ⟨0, 0, 0, none, rfl, by omega, by omega, by omega, rfl, World.ownsRow_nil _ _ _ _, HP5, HR5, HOS5, HOF5, HB5⟩
    case round =>
      obtain ⟨k, n, cB, Bv, rfl, hk, hg, hnk, HN, HOA, HP, HR, HOS, HOF, HBX⟩ := hrel
      obtain ⟨g, rfl⟩ : ∃ g, gk = g + 1 := ⟨gk - 1, by omega⟩
      by_cases hlt : k < F.length
      · have c0 := HOF.out.cellAt k (by omega)
        simp only [List.getElem?_map, List.getElem?_eq_getElem hlt, Option.map_some] at c0
        have hx := HF2.out F[k] (List.getElem_mem hlt)
        have hat := atoi_every ⟨F[k].toArray⟩ hx wr (HT0.out.below HBX.out)
        have HTK := Lib.hid (List.take_succ_eq_append_getElem hlt)
        rw [mk_list] at hat
        have HAT := Lib.hid hat
        generalize F[k] = x at *
        clear hat hx
        go_wp2_with fail
        refine HAT.out.mono ?_
        rintro e w6 ⟨u, er, rfl, hue, hu0, hu1, her, hb6⟩
        clear hue
        have HOA6 := Lib.hid (own_below5 HOA.out hb6)
        have HOS6 := Lib.hid (own_below5 HOS.out hb6)
        have HOF6 := Lib.hid (own_below5 HOF.out hb6)
        have HP6 := Lib.hid (HP.out.below hb6)
        have HR6 := Lib.hid (HR.out.below hb6)
        have HB6 := Lib.hid (HBX.out.trans (hb6.mono HBX.out.size))
        clear hb6 HOA HOS HOF HP HR HBX HAT c0
        rcases her with ⟨rfl, hao⟩ | ⟨N, rfl, hao⟩
        · have HAO := Lib.hid hao
          clear hao
          have HE6 := Lib.hid (show (F.take (k + 1)).filterMap atoiO = (F.take k).filterMap atoiO ++ [u] by rw [HTK.out, List.filterMap_append, List.filterMap_cons, HAO.out]; rfl)
          have hab : Below w6.heap.size w6 (w6.alloc (.cells #[.int .i64 u] 3)) := (Below.refl _ _).alloc (Nat.le_refl _) _
          have HO7 := Lib.hid (HOA6.out.alloc (.cells #[.int .i64 u] 3))
          have HOS7 := Lib.hid (HOS6.out.alloc (.cells #[.int .i64 u] 3))
          have HOF7 := Lib.hid (HOF6.out.alloc (.cells #[.int .i64 u] 3))
          have HP7 := Lib.hid (HP6.out.below hab)
          have HR7 := Lib.hid (HR6.out.below hab)
          have HB7 := Lib.hid (HB6.out.alloc HB6.out.size (.cells #[.int .i64 u] 3))
          have HNEWS := Lib.hid (World.news_of_block (w := w6.alloc (.cells #[.int .i64 u] 3)) (B := w6.heap.size) (cs := #[.int .i64 u]) (t := 3) (fr := (0, 0)) (heap_alloc_new _ _))
          have HONE := Lib.hid (show ∀ y ∈ [Value.int .i64 u], y.oneCell' = true by simp [Value.oneCell'])
          have H63 := Lib.hid (show n + 1 ≤ maxLen by unfold maxLen; omega)
          have HBY := Lib.hid (show (n + 1) * 8 ≤ 140737488355328 by omega)
          have HBASE := Lib.hid HB7.out.size
          have p2 := HP6.out.at.g2
          clear hab
          go_wp2_with (at_builtin; refine wpList_append_lies _ rfl (.tmp 56) (.tmp 58) 23 rfl w.heap.size 3 i1 _ 1 8 Tryd.underlying23 H1.out.1 H1.out.2.1 H1.out.2.2.1 H1.out.2.2.2 rfl (by decide) (.slice Bv n cB) n _ rfl HO7.out ⟨w6.heap.size, 0, none⟩ 1 1 [Value.int .i64 u] rfl rfl HNEWS.out HONE.out (by decide) H63.out HBY.out HBASE.out _ rfl ?_)
          intro g3 cap w8 hown hgrow _ _
          have hp8 : PgBlk w8 (w.heap.size + 1) none 0 0 v Bv n cB := (hgrow.block _ HP7.out.lt (fun e => own_ne_blk HO7.out HP7.out (by decide) e.symm)).trans HP7.out
          have hr8 : PgBlk w8 w.heap.size none 0 0 0 none 0 0 := (hgrow.block _ HR7.out.lt (fun e => own_ne_blk HO7.out HR7.out (by decide) e.symm)).trans HR7.out
          have hos8 := HOS7.out.kept hgrow (own_ne2 HOS7.out HO7.out (by decide))
          have hof8 := HOF7.out.kept hgrow (own_ne2 HOF7.out HO7.out (by decide))
          have hb8 := below_grown5 HB7.out hgrow HBASE.out (fun g hg => (HO7.out.lt g hg).1)
          have HP9 := Lib.hid (hp8.set2 (some ⟨g3, 0, none⟩) (n + 1) cap)
          have HR9 := Lib.hid (hr8.other (show w.heap.size + 1 ≠ w.heap.size by omega) 2 (.slice (some ⟨g3, 0, none⟩) (n + 1) cap))
          have HOA9 := Lib.hid (ownsRow_setCell_other hown (a := ⟨w.heap.size + 1, 2, none⟩) (own_ne_blk hown hp8 (by decide)) (.slice (some ⟨g3, 0, none⟩) (n + 1) cap))
          have HOS9 := Lib.hid (ownsRow_setCell_other hos8 (a := ⟨w.heap.size + 1, 2, none⟩) (own_ne_blk hos8 hp8 (by decide)) (.slice (some ⟨g3, 0, none⟩) (n + 1) cap))
          have HOF9 := Lib.hid (ownsRow_setCell_other hof8 (a := ⟨w.heap.size + 1, 2, none⟩) (own_ne_blk hof8 hp8 (by decide)) (.slice (some ⟨g3, 0, none⟩) (n + 1) cap))
          have HB9 := Lib.hid (hb8.setCell (p := ⟨w.heap.size + 1, 2, none⟩) (Nat.le_succ _) (.slice (some ⟨g3, 0, none⟩) (n + 1) cap))
          have p2 := hp8.at.g2
          have f2 := hp8.fz 2
          have pl := hp8.lt
          clear hp8 hr8 hos8 hof8 hb8 hown hgrow HO7 HOS7 HOF7 HP7 HR7 HB7 HNEWS HONE H63 HBY HBASE HOA6 HOS6 HOF6 HP6 HR6 HB6
          go_wp2_with fail
          go_roundg g
          case measure => omega
          case rel => exact ⟨k + 1, n + 1, cap, some ⟨g3, 0, none⟩, by go_num, by omega, by omega, by omega, Lib.hid (by rw [HE6.out, List.length_append, ← HN.out]; rfl), Lib.hid (by rw [HE6.out, List.map_append]; exact HOA9.out), HP9, HR9, HOS9, HOF9, HB9⟩
        · have HE6 := Lib.hid (show (F.take (k + 1)).filterMap atoiO = (F.take k).filterMap atoiO by rw [HTK.out, List.filterMap_append, List.filterMap_cons, hao]; simp)
          clear hao
          go_wp2_with fail
          go_roundg g
          case measure => omega
          case rel => exact ⟨k + 1, n, cB, Bv, by go_num, by omega, by omega, by omega, Lib.hid (by rw [HE6.out]; exact HN.out), Lib.hid (by rw [HE6.out]; exact HOA6.out), HP6, HR6, HOS6, HOF6, HB6⟩
      · have hke : k = F.length := by omega
        subst hke
        rw [List.take_length] at HN HOA
        have HV2 := Lib.hid HV.out
        go_wp2_with fail
        clear hnk hg hk
        obtain ⟨na, hna⟩ : ∃ na, na = F.length := ⟨_, rfl⟩
        go_loopg [68] (LB.length + 1) (fun g i wx => ∃ (k cA : Nat) (Av : Option Addr), i = .int .i64 k ∧ k ≤ LB.length - 3 ∧ LB.length - k < g ∧ Hid (wx.ownsRow w.heap.size 33 2 (.slice Av k cA) k (insCells ((((LB.map (·.data.toList)).drop 2).take k).map lineOf))) ∧ Hid (wx.ownsRow w.heap.size 3 1 (.slice Bv n cB) n ((F.filterMap atoiO).map (Value.int .i64))) ∧ Hid (PgBlk wx (w.heap.size + 1) Av k cA v Bv n cB) ∧ Hid (PgBlk wx w.heap.size none 0 0 0 none 0 0) ∧ Hid (wx.ownsRow w.heap.size 9 1 (.slice (some ⟨b0, 0, none⟩) LB.length LB.length) LB.length (LB.map Value.string).toArray.toList) ∧ Hid (Below w.heap.size w wx))
        case atStart => exact ⟨0, 0, none, rfl, by omega, by omega, World.ownsRow_nil _ _ _ _, HOA, HP, HR, HOS, HBX⟩
        case round =>
          clear HOA HP HR HOS HBX HOF
          obtain ⟨k, cA, Av, rfl, hk, hg, HOC, HOA, HP, HR, HOS, HBX⟩ := hrel
          obtain ⟨g, rfl⟩ : ∃ g, gk = g + 1 := ⟨gk - 1, by omega⟩
          by_cases hlt : k < LB.length - 3
          · have c0 := HOS.out.cellAt (2 + k) (by omega)
            have hlk : 2 + k < LB.length := by omega
            simp only [List.getElem?_map, List.getElem?_eq_getElem hlk, Option.map_some] at c0
            have hxs := hls LB[2 + k] (List.getElem_mem hlk)
            have hxt := HT0.out.below HBX.out
            obtain ⟨mm, hmm⟩ := hxt.most
            have hcut := Tryd.strings_Cut LB[2 + k] ⟨#[32]⟩ mm wr (by omega) hmm
            have HLK := Lib.hid (show ((LB.map (·.data.toList)).drop 2)[k]? = some LB[2 + k].data.toList by simp [List.getElem?_drop, hlk])
            generalize LB[2 + k] = lx at *
            have HCUT := Lib.hid hcut
            have hcl1 : (Lib.cut lx.data.toList [32]).2.1.length ≤ lx.data.toList.length := by
              unfold Lib.cut
              split
              · rw [List.length_drop]
                omega
              · simp
            rw [← Lib.size_eq] at hcl1
            have HLN := Lib.hid (show lineOf lx.data.toList = ⟨max 0 (Lib.idxOfS opNames ⟨(Lib.cut lx.data.toList [32]).1.toArray⟩), intV (Lib.cut lx.data.toList [32]).2.1⟩ from rfl)
            rw [show ((⟨#[32]⟩ : ByteArray).data.toList) = [32] from rfl] at HCUT
            generalize (Lib.cut lx.data.toList [32]).1 = y1 at *
            generalize (Lib.cut lx.data.toList [32]).2.1 = y2 at *
            generalize (Lib.cut lx.data.toList [32]).2.2 = y3 at *
            clear hcut hmm hxt
            go_wp2_with fail
            refine HCUT.out.mono ?_
            rintro e w6 ⟨rfl, nq, hw6⟩
            have hb6 : Below wr.heap.size wr w6 := by rw [hw6]; exact Gr.below ⟨nq, #[], by rw [grow_empty]⟩
            clear hw6 HCUT c0
            have HB6 := Lib.hid (HBX.out.trans (hb6.mono HBX.out.size))
            have HX6 := Lib.hid hb6
            clear hb6
            go_wp2_with fail
            refine (pint_every ⟨y2.toArray⟩ (by rw [mk_size]; omega) w6 (HT0.out.below HB6.out)).mono ?_
            rintro e w7 ⟨u, er, rfl, hue, hu0, hu1, hb7⟩
            rw [mk_list] at hue
            have HUE := Lib.hid hue
            have HX7 := Lib.hid (HX6.out.trans (hb7.mono HX6.out.size))
            clear hue hb7 HX6 HB6
            have HC7 := Lib.hid (own_below5 HOC.out HX7.out)
            have HA7 := Lib.hid (own_below5 HOA.out HX7.out)
            have HS7 := Lib.hid (own_below5 HOS.out HX7.out)
            have HP7 := Lib.hid (HP.out.below HX7.out)
            have HR7 := Lib.hid (HR.out.below HX7.out)
            have HB7 := Lib.hid (HBX.out.trans (HX7.out.mono HBX.out.size))
            have hir := idx_range ⟨y1.toArray⟩ opNames 0
            have hrd : Lib.idxFromS opNames ⟨y1.toArray⟩ 0 = Lib.idxOfS opNames ⟨y1.toArray⟩ := rfl
            rw [hrd, opNames_len] at hir
            have hcn := (HC0.out.below HB7.out).names
            have hidx := fun (wz : World) (hz : Below w7.heap.size w7 wz) => Tryd.slices_Index_string 0 0 30 30 opNames ⟨y1.toArray⟩ wz (by rw [opNames_len]; omega) (by decide) (fun j hj => by
              rw [opNames_len] at hj
              rw [Nat.zero_add]
              exact cell_later hz (hcn j hj))
            rw [show opNames.take 30 = opNames from rfl] at hidx
            generalize Lib.idxOfS opNames ⟨y1.toArray⟩ = ix at *
            have hop2 : 0 ≤ max 0 ix ∧ max 0 ix ≤ 29 := by omega
            have HIDX := Lib.hid hidx
            clear hidx hcn hrd
            have hab : Below w7.heap.size w7 ((w7.alloc (.cells #[.int .u8 (max 0 ix), .int .i64 u] 33)).drew) := ((Below.refl _ _).alloc (Nat.le_refl _) _).drew
            have HO8 := Lib.hid ((HC7.out.alloc (.cells #[.int .u8 (max 0 ix), .int .i64 u] 33)).drew)
            have HA8 := Lib.hid ((HA7.out.alloc (.cells #[.int .u8 (max 0 ix), .int .i64 u] 33)).drew)
            have HS8 := Lib.hid ((HS7.out.alloc (.cells #[.int .u8 (max 0 ix), .int .i64 u] 33)).drew)
            have HP8 := Lib.hid (HP7.out.below hab)
            have HR8 := Lib.hid (HR7.out.below hab)
            have HB8 := Lib.hid (HB7.out.trans (hab.mono HB7.out.size))
            have HNEWS := Lib.hid (World.news_of_block (w := (w7.alloc (.cells #[.int .u8 (max 0 ix), .int .i64 u] 33)).drew) (B := w7.heap.size) (cs := #[.int .u8 (max 0 ix), .int .i64 u]) (t := 33) (fr := (0, 0)) (heap_alloc_new _ _))
            have HONE := Lib.hid (show ∀ y ∈ [Value.int .u8 (max 0 ix), Value.int .i64 u], y.oneCell' = true by simp [Value.oneCell'])
            have H63 := Lib.hid (show k + 1 ≤ maxLen by unfold maxLen; omega)
            have HBY := Lib.hid (show (k + 1) * 16 ≤ 140737488355328 by omega)
            have HBASE := Lib.hid HB8.out.size
            have p0 := HP7.out.at.g0
            have pl7 := HP7.out.lt
            have hwu : IntKind.u8.wrap (max 0 ix) = max 0 ix := IntWalk.u8_in _ (by omega)
            clear hab HOC HOA HP HR HOS HBX HX7
            go_upto_region 18 with fail
            go_region_law (first | (refine step_append_lies _ rfl (.tmp 84) (.tmp 92) 22 rfl w.heap.size 33 i2 _ 2 16 Tryd.underlying22 H2.out.1 H2.out.2.1 H2.out.2.2.1 H2.out.2.2.2 rfl (by decide) (.slice Av k cA) k _ (by simp [Act.eval, Act.put]) HO8.out ⟨w7.heap.size, 0, none⟩ 1 1 [Value.int .u8 (max 0 ix), Value.int .i64 u] (by simp [Act.eval, Act.put]) rfl HNEWS.out HONE.out (by decide) H63.out HBY.out HBASE.out _ rfl ?_; intro g3 cap w9 hown hgrow hat hlt9; have hp9 : PgBlk w9 (w.heap.size + 1) Av k cA v Bv n cB := (hgrow.block _ HP8.out.lt (fun e => own_ne_blk HO8.out HP8.out (by decide) e.symm)).trans HP8.out; have f9 := hp9.fz 0; have l9 := hp9.lt; have g9 := hp9.at.g0) | (go_simp; go_at_call 46; refine (HIDX.out _ (by first | exact Below.refl _ _ | exact (Below.refl _ _).drew)).mono ?_; rintro e w8 ⟨rfl, rfl⟩; go_simp))
            all_goals
              have hr9 : PgBlk w9 w.heap.size none 0 0 0 none 0 0 := (hgrow.block _ HR8.out.lt (fun e => own_ne_blk HO8.out HR8.out (by decide) e.symm)).trans HR8.out
              have hs9 := HS8.out.kept hgrow (own_ne2 HS8.out HO8.out (by decide))
              have ha9 := HA8.out.kept hgrow (own_ne2 HA8.out HO8.out (by decide))
              have hb9 := below_grown5 HB8.out hgrow HBASE.out (fun g hg => (HO8.out.lt g hg).1)
              have HEQ := Lib.hid (show insCells ((((LB.map (·.data.toList)).drop 2).take (k + 1)).map lineOf) = insCells ((((LB.map (·.data.toList)).drop 2).take k).map lineOf) ++ [.int .u8 (max 0 ix), .int .i64 u] by
                rw [List.take_add_one, HLK.out, List.map_append, HUE.out]
                show insCells (_ ++ [lineOf lx.data.toList]) = _
                rw [HLN.out, insCells_snoc])
              have HPX := Lib.hid (hp9.set0 (some ⟨g3, 0, none⟩) (k + 1) cap)
              have HRX := Lib.hid (hr9.other (show w.heap.size + 1 ≠ w.heap.size by omega) 0 (.slice (some ⟨g3, 0, none⟩) (k + 1) cap))
              have HCX := Lib.hid (ownsRow_setCell_other hown (a := ⟨w.heap.size + 1, 0, none⟩) (own_ne_blk hown hp9 (by decide)) (.slice (some ⟨g3, 0, none⟩) (k + 1) cap))
              have HAX := Lib.hid (ownsRow_setCell_other ha9 (a := ⟨w.heap.size + 1, 0, none⟩) (own_ne_blk ha9 hp9 (by decide)) (.slice (some ⟨g3, 0, none⟩) (k + 1) cap))
              have HSX := Lib.hid (ownsRow_setCell_other hs9 (a := ⟨w.heap.size + 1, 0, none⟩) (own_ne_blk hs9 hp9 (by decide)) (.slice (some ⟨g3, 0, none⟩) (k + 1) cap))
              have HBX9 := Lib.hid (hb9.setCell (p := ⟨w.heap.size + 1, 0, none⟩) (Nat.le_succ _) (.slice (some ⟨g3, 0, none⟩) (k + 1) cap))
              clear hr9 hs9 ha9 hb9 hown hgrow hat hlt9 hp9 f9 l9 g9 HO8 HA8 HS8 HP8 HR8 HB8 HNEWS HONE H63 HBY HBASE hwu p0 pl7 HIDX
              go_wp2_with fail
              go_roundg g
              case measure => omega
              case rel => exact ⟨k + 1, cap, some ⟨g3, 0, none⟩, by go_num, by omega, by omega, Lib.hid (by rw [HEQ.out]; exact HCX.out), HAX, HPX, HRX, HSX, HBX9⟩
          · have hke : k = LB.length - 3 := by omega
            clear hlt hg hk
            have hcl : ((((LB.map (·.data.toList)).drop 2).take k).map lineOf).length = k := by simp; omega
            have hread : readP (splitC 10 s.data.toList) = ⟨(((LB.map (·.data.toList)).drop 2).take k).map lineOf, v, F.filterMap atoiO⟩ := by
              rw [← HIS.out]
              unfold readP
              rw [HE0.out, HE1.out, HTV.out, HF.out, ← HV2.out, List.length_map, List.drop_take, hke, show LB.length - 1 - 2 = LB.length - 3 by omega]
            have hok : ∀ i ∈ (((LB.map (·.data.toList)).drop 2).take k).map lineOf, i.Ok := fun i hi => by
              obtain ⟨x, _, rfl⟩ := List.mem_map.1 hi
              exact line_ok x
            have haok : ∀ n ∈ F.filterMap atoiO, -9223372036854775808 ≤ n ∧ n ≤ 9223372036854775807 := fun n hn => by
              obtain ⟨x, _, hx⟩ := List.mem_filterMap.1 hn
              exact atoiO_bounds hx
            have hnl := HN.out
            clear HN
            generalize (((LB.map (·.data.toList)).drop 2).take k).map lineOf = C at *
            generalize F.filterMap atoiO = ar at *
            subst hcl
            subst hnl
            have hIQ : CpIn wr Av cA Bv cB ⟨C, v, ar⟩ := cpIn_own HOC.out HOA.out hok haok ⟨hv0, hv1⟩
            have HREAD := Lib.hid hread
            have hk1 : LB.length - 3 ≤ C.length := by omega
            have hk2 : C.length ≤ LB.length - 3 := by omega
            clear hread hok haok hke
            have p0 := HP.out.at.g0
            have p1 := HP.out.at.g1
            have p2 := HP.out.at.g2
            have HIQ := Lib.hid hIQ
            clear hIQ
            go_wp2_with fail
            refine (text_any Av Bv cA cB ⟨C, v, ar⟩ wr HIQ.out (HC0.out.below HBX.out)).mono ?_
            rintro e w8 ⟨ht1, ht2, hb8⟩
            have HP8 := Lib.hid (HP.out.below hb8)
            have HR8 := Lib.hid (HR.out.below hb8)
            have hC8 := own_below5 HOC.out hb8
            have hA8 := own_below5 HOA.out hb8
            have hneC := own_ne_blk hC8 HR8.out (by decide)
            have hneA := own_ne_blk hA8 HR8.out (by decide)
            have HC9 := Lib.hid (fun (y0 y1 y2 : Value) => ownsRow_setCell_other (ownsRow_setCell_other (ownsRow_setCell_other hC8 (a := ⟨w.heap.size, 0, none⟩) hneC y0) (a := ⟨w.heap.size, 1, none⟩) hneC y1) (a := ⟨w.heap.size, 2, none⟩) hneC y2)
            have HA9 := Lib.hid (fun (y0 y1 y2 : Value) => ownsRow_setCell_other (ownsRow_setCell_other (ownsRow_setCell_other hA8 (a := ⟨w.heap.size, 0, none⟩) hneA y0) (a := ⟨w.heap.size, 1, none⟩) hneA y1) (a := ⟨w.heap.size, 2, none⟩) hneA y2)
            have hb9 := HBX.out.trans (hb8.mono HBX.out.size)
            have HX := Lib.hid (fun (y0 y1 y2 : Value) => ((hb9.setCell (p := ⟨w.heap.size, 0, none⟩) (Nat.le_refl _) y0).setCell (p := ⟨w.heap.size, 1, none⟩) (Nat.le_refl _) y1).setCell (p := ⟨w.heap.size, 2, none⟩) (Nat.le_refl _) y2)
            clear hb9 hneC hneA hC8 hA8 hb8 p0 p1 p2 HOC HOA HP HR HBX
            have p0 := HP8.out.at.g0
            have p1 := HP8.out.at.g1
            have p2 := HP8.out.at.g2
            have r0 := HR8.out.at.g0
            have r1 := HR8.out.at.g1
            have r2 := HR8.out.at.g2
            have f0 := HR8.out.fz 0
            have f1 := HR8.out.fz 1
            have f2 := HR8.out.fz 2
            have rl := HR8.out.lt
            by_cases hmay : (Cp.mk C v ar).May
            case pos =>
              obtain rfl := ht1 hmay
              have HMAY := Lib.hid hmay
              clear hmay ht1 ht2
              cases dt : (cpText ⟨C, v, ar⟩ == s.toList)
              case false =>
                have HNO := Lib.hid (show ∀ q' : Cp, q'.May → (∀ i ∈ q'.code, i.Ok) → (∀ n ∈ q'.arrays, -9223372036854775808 ≤ n ∧ n ≤ 9223372036854775807) → (⟨(cpText q').toArray⟩ : ByteArray) ≠ s from fun q' hq hk ha e => by
                  have h := read_may hq hk ha
                  rw [← lines_of_text e, HREAD.out] at h
                  rw [h, ← e, ByteArray.toList_eq] at dt
                  simp at dt)
                go_wp2_with fail
                have hZ := ((HR8.out.set0 none 0 0).set1 0).set2 none 0 0
                have x0 := hZ.at.g0
                have x1 := hZ.at.g1
                have x2 := hZ.at.g2
                refine bodyPost_ret (v := .tuple #[.agg #[.slice none 0 0, .int .i64 0, .slice none 0 0], .int .i64 50]) (by simp [results, Tryd.results21, go_sem, x0, x1, x2]) rfl ?_
                exact ⟨⟨[], 0, []⟩, 50, none, none, 0, 0, rfl, cpIn_empty _, .inr ⟨HNO.out, rfl, rfl⟩, HX.out _ _ _⟩
              case true =>
                have HEQ := Lib.hid (show (⟨(cpText ⟨C, v, ar⟩).toArray⟩ : ByteArray) = s by
                  have h := beq_iff_eq.1 dt
                  rw [ByteArray.toList_eq] at h
                  rw [h])
                go_wp2_with fail
                have hZ := ((HR8.out.set0 Av C.length cA).set1 v).set2 Bv ar.length cB
                have x0 := hZ.at.g0
                have x1 := hZ.at.g1
                have x2 := hZ.at.g2
                refine bodyPost_ret (v := .tuple #[.agg #[.slice Av C.length cA, .int .i64 v, .slice Bv ar.length cB], .int .i64 0]) (by simp [results, Tryd.results21, go_sem, x0, x1, x2]) rfl ?_
                exact ⟨⟨C, v, ar⟩, 0, Av, Bv, cA, cB, rfl, cpIn_own (HC9.out _ _ _) (HA9.out _ _ _) HIQ.out.ok HIQ.out.aok HIQ.out.vok, .inl ⟨HMAY.out, HEQ.out, rfl⟩, HX.out _ _ _⟩
            case neg =>
              obtain rfl := ht2 hmay
              have HNO := Lib.hid (show ∀ q' : Cp, q'.May → (∀ i ∈ q'.code, i.Ok) → (∀ n ∈ q'.arrays, -9223372036854775808 ≤ n ∧ n ≤ 9223372036854775807) → (⟨(cpText q').toArray⟩ : ByteArray) ≠ s from fun q' hq hk ha e => by
                have h := read_may hq hk ha
                rw [← lines_of_text e, HREAD.out] at h
                rw [h] at hmay
                exact hmay hq)
              clear hmay ht1 ht2
              go_wp2_with fail
              have hZ := ((HR8.out.set0 none 0 0).set1 0).set2 none 0 0
              have x0 := hZ.at.g0
              have x1 := hZ.at.g1
              have x2 := hZ.at.g2
              refine bodyPost_ret (v := .tuple #[.agg #[.slice none 0 0, .int .i64 0, .slice none 0 0], .int .i64 50]) (by simp [results, Tryd.results21, go_sem, x0, x1, x2]) rfl ?_
              exact ⟨⟨[], 0, []⟩, 50, none, none, 0, 0, rfl, cpIn_empty _, .inr ⟨HNO.out, rfl, rfl⟩, HX.out _ _ _⟩
end Go.Proofs.YtaanhkepimjelaaDoor
