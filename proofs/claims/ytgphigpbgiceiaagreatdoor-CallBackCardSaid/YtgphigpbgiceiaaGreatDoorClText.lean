/- The walk of call.Text. -/
import Derived.Test.YtgphigpbgiceiaaGreatDoorTrimOk
import Derived.Test.YtgphigpbgiceiaaGreatDoorCtRow
import Derived.Test.YtgphigpbgiceiaaGreatDoorClTrim
import Derived.Lib.QuietBelow
import Derived.Deep.LoopGhost
namespace Go.Proofs.YtgphigpbgiceiaaGreatDoor
open Go.RowKit Go.Sort
set_option linter.unusedVariables false
set_option linter.unusedSimpArgs false

theorem Tryz.infoInt64 : (Tryz.prog.info? 2).map (fun i => (i.zero, i.size, i.bytes)) = some (some (.int .i64 0), 1, 8) := by kernel_rfl
theorem ba_app16 (a b : List UInt8) : (⟨a.toArray⟩ : ByteArray) ++ ⟨b.toArray⟩ = ⟨(a ++ b).toArray⟩ := by
  apply ByteArray.ext
  simp
/-- What a call's text is told to be. -/
def TextPost (c : Cl) (w : World) (e : Ending) (w' : World) : Prop := e = .returned (.tuple #[.string ⟨(textOfC c).toArray⟩, .int .i64 (errOfC c)]) ∧ Below w.heap.size w w'
theorem textPost_no {c : Cl} {w w' : World} (h : textB c = false) (hb : Below w.heap.size w w') : TextPost c w (.returned (.tuple #[.string ⟨#[]⟩, .int .i64 160])) w' := by
  unfold TextPost textOfC errOfC
  rw [h]
  exact ⟨rfl, hb⟩
theorem textB_none {c : Cl} (h : (usesF c.kind).isSome = false) : textB c = false := by
  unfold textB
  rw [h]
  rfl
theorem textB_same {c : Cl} (h : c.same (trimF c) = false) : textB c = false := by
  unfold textB
  rw [h, Bool.and_false]
  rfl
theorem textB_op {c : Cl} (h : ¬ c.op ≤ 2) : textB c = false := by
  unfold textB
  rw [decide_eq_false h, Bool.and_false]
  rfl
theorem textB_list {c : Cl} (h0 : ((usesF c.kind).getD [])[0]? = some 8) (h : listedB c = false) : textB c = false := by
  unfold textB
  rw [h, h0]
  simp
theorem textB_yes {c : Cl} (h0 : (usesF c.kind).isSome = true) (h1 : c.same (trimF c) = true) (h2 : c.op ≤ 2) (h3 : ((usesF c.kind).getD [])[0]? ≠ some 8 ∨ listedB c = true) : textB c = true := by
  unfold textB
  rw [h0, h1, decide_eq_true h2]
  rcases h3 with h3 | h3
  · have : (((usesF c.kind).getD [])[0]? == some 8) = false := by rw [beq_eq_false_iff_ne]; exact h3
    rw [this]
    rfl
  · rw [h3]
    simp
theorem uses_some {k : Int} (h : (usesF k).isSome = true) : 0 < ((usesF k).getD []).length ∧ 1 ≤ k ∧ k ≤ 22 := by
  revert h
  unfold usesF
  repeat (split; · (intro _; refine ⟨?_, ?_, ?_⟩ <;> first | (simp; done) | omega))
  intro h
  cases h

set_option maxHeartbeats 32000000 in
set_option maxRecDepth 100000 in
theorem clText_any (c : Cl) (A : Option Addr) (cap : Nat) (w : World) (hc : c.Ok) (hR : IntRow w A c.reqs) (hl : c.reqs.length ≤ 1000) (hT : TextTabs w) (hP : PowIs w) :
    Calls Tryz.prog 7 #[.agg (clCells c A cap)] w (TextPost c w) := by
  obtain ⟨w2, hw2⟩ : ∃ y, y = w.alloc (.cells (clCells c A cap) 24) := ⟨_, rfl⟩
  have e2 : Below w.heap.size w w2 := by rw [hw2]; exact (Below.refl _ _).alloc (Nat.le_refl _) _
  have f2 : ClBlk w2 w.heap.size c A cap := by rw [hw2]; exact ClBlk.new
  have HB := Lib.hid e2
  have HX := Lib.hid f2
  have g0 := f2.at.g0
  have HR := Lib.hid (hR.below e2)
  have HT := Lib.hid (hT.below e2)
  have HP := Lib.hid (hP.below e2)
  have HC := Lib.hid hc
  have HL := Lib.hid hl
  go_enter Tryz.func7, Tryz.ntmps7
  go_upto_region 1 with fail
  rw [← hw2]
  clear hw2 e2 f2 hR hT hP hc hl
  refine wp_region_rel (fun w' => Below w2.heap.size w2 w') (goodBy [(13, .such UsesAt UsesAt.stay), (14, .is (.pointer (some ⟨w.heap.size, 0, none⟩))), (15, .is (.int .u8 c.kind)), (16, .such (UsesTold c.kind) (UsesTold.stay c.kind)), (12, .such (UsesTold c.kind) (UsesTold.stay c.kind)), (17, .such (UsesRow c.kind) (UsesRow.stay c.kind)), (18, .is (.bool (usesF c.kind).isSome)), (4, .such (UsesRow c.kind) (UsesRow.stay c.kind)), (5, .is (.bool (usesF c.kind).isSome))]) (by first | assumption | kernel_rfl) (by first | rfl | kernel_rfl) (Below.refl _ _).drew ?_ ?_
  · intro i o ho ρ wx hCx hout hcon hdep
    have x1 : ρ (.tmp 1) = .pointer (some ⟨w.heap.size, 0, none⟩) := hout 1 (by decide)
    have y0 := cell_later hCx g0
    have xc : ∀ c : Value, ρ (.const c) = c := fun c => hcon (.const c) (fun t h => by cases h)
    have xf : ∀ f : FuncId, ρ (.func f) = .func (.func f) #[] #[] := fun f => hcon (.func f) (fun t h => by cases h)
    match i, ho with
    | 0, ho =>
      simp only [List.getElem?_toArray, List.getElem?_cons_zero, List.getElem?_cons_succ, Option.some.injEq] at ho
      subst ho
      generalize hR : (fun (u : Value) (w' : World) => Below w2.heap.size w2 w' ∧ _) = R
      clear hout hcon hdep
      go_simp
      rw [stepOk_enter]
      refine (uses_any wx).mono ?_
      rintro e w2 ⟨r, a, b, c1, d, x, f, g, h, rfl, hI, hb2⟩
      subst hR
      exact ⟨_, rfl, hCx.trans (hb2.mono hCx.size), goodBy_stay hb2, fun d hd => (by obtain rfl : 13 = d := Option.some.inj hd; exact ⟨_, r, a, b, c1, _, x, f, g, h, rfl, hI⟩)⟩
    | 1, ho =>
      simp only [List.getElem?_toArray, List.getElem?_cons_zero, List.getElem?_cons_succ, Option.some.injEq] at ho
      subst ho
      generalize hR : (fun (u : Value) (w' : World) => Below w2.heap.size w2 w' ∧ _) = R
      clear hout hcon hdep
      go_simp
      subst hR
      exact ⟨hCx, fun s u h => h, fun d hd => (by obtain rfl : 14 = d := Option.some.inj hd; exact rfl)⟩
    | 2, ho =>
      simp only [List.getElem?_toArray, List.getElem?_cons_zero, List.getElem?_cons_succ, Option.some.injEq] at ho
      subst ho
      have d14 := hdep ⟨1, .data⟩ (by simp) rfl _ rfl 14 rfl
      change ρ (.tmp 14) = _ at d14
      generalize hR : (fun (u : Value) (w' : World) => Below w2.heap.size w2 w' ∧ _) = R
      clear hout hcon hdep
      go_simp
      subst hR
      exact ⟨hCx, fun s u h => h, fun d hd => (by obtain rfl : 15 = d := Option.some.inj hd; exact rfl)⟩
    | 3, ho =>
      simp only [List.getElem?_toArray, List.getElem?_cons_zero, List.getElem?_cons_succ, Option.some.injEq] at ho
      subst ho
      have d13 := hdep ⟨0, .data⟩ (by simp) rfl _ rfl 13 rfl
      change UsesAt (ρ (.tmp 13)) wx at d13
      have d15 := hdep ⟨2, .data⟩ (by simp) rfl _ rfl 15 rfl
      change ρ (.tmp 15) = _ at d15
      generalize hR : (fun (u : Value) (w' : World) => Below w2.heap.size w2 w' ∧ _) = R
      clear hout hcon hdep
      go_simp
      obtain ⟨t, ht, hU⟩ := look_told c.kind _ wx d13
      go_simp
      subst hR
      exact ⟨hCx, fun s u h => h, fun d hd => (by obtain rfl : 16 = d := Option.some.inj hd; exact hU)⟩
    | 4, ho =>
      simp only [List.getElem?_toArray, List.getElem?_cons_zero, List.getElem?_cons_succ, Option.some.injEq] at ho
      subst ho
      have d16 := hdep ⟨3, .data⟩ (by simp) rfl _ rfl 16 rfl
      change (UsesTold c.kind) (ρ (.tmp 16)) wx at d16
      generalize hR : (fun (u : Value) (w' : World) => Below w2.heap.size w2 w' ∧ _) = R
      clear hout hcon hdep
      go_simp
      subst hR
      exact ⟨hCx, fun s u h => h, fun d hd => (by obtain rfl : 12 = d := Option.some.inj hd; exact d16)⟩
    | 5, ho =>
      simp only [List.getElem?_toArray, List.getElem?_cons_zero, List.getElem?_cons_succ, Option.some.injEq] at ho
      subst ho
      have d12 := hdep ⟨4, .data⟩ (by simp) rfl _ rfl 12 rfl
      change (UsesTold c.kind) (ρ (.tmp 12)) wx at d12
      generalize hR : (fun (u : Value) (w' : World) => Below w2.heap.size w2 w' ∧ _) = R
      clear hout hcon hdep
      go_simp
      obtain ⟨t, ht, hU⟩ := d12
      go_simp
      subst hR
      exact ⟨hCx, fun s u h => h, fun d hd => (by obtain rfl : 17 = d := Option.some.inj hd; exact hU)⟩
    | 6, ho =>
      simp only [List.getElem?_toArray, List.getElem?_cons_zero, List.getElem?_cons_succ, Option.some.injEq] at ho
      subst ho
      have d12 := hdep ⟨4, .data⟩ (by simp) rfl _ rfl 12 rfl
      change (UsesTold c.kind) (ρ (.tmp 12)) wx at d12
      generalize hR : (fun (u : Value) (w' : World) => Below w2.heap.size w2 w' ∧ _) = R
      clear hout hcon hdep
      go_simp
      obtain ⟨t, ht, hU⟩ := d12
      go_simp
      subst hR
      exact ⟨hCx, fun s u h => h, fun d hd => (by obtain rfl : 18 = d := Option.some.inj hd; exact rfl)⟩
    | 7, ho =>
      simp only [List.getElem?_toArray, List.getElem?_cons_zero, List.getElem?_cons_succ, Option.some.injEq] at ho
      subst ho
      have d17 := hdep ⟨5, .data⟩ (by simp) rfl _ rfl 17 rfl
      change (UsesRow c.kind) (ρ (.tmp 17)) wx at d17
      generalize hR : (fun (u : Value) (w' : World) => Below w2.heap.size w2 w' ∧ _) = R
      clear hout hcon hdep
      go_simp
      subst hR
      exact ⟨hCx, fun s u h => h, fun d hd => (by obtain rfl : 4 = d := Option.some.inj hd; exact d17)⟩
    | 8, ho =>
      simp only [List.getElem?_toArray, List.getElem?_cons_zero, List.getElem?_cons_succ, Option.some.injEq] at ho
      subst ho
      have d18 := hdep ⟨6, .data⟩ (by simp) rfl _ rfl 18 rfl
      change ρ (.tmp 18) = _ at d18
      generalize hR : (fun (u : Value) (w' : World) => Below w2.heap.size w2 w' ∧ _) = R
      clear hout hcon hdep
      go_simp
      subst hR
      exact ⟨hCx, fun s u h => h, fun d hd => (by obtain rfl : 5 = d := Option.some.inj hd; exact rfl)⟩
    | n + 9, ho => exact absurd ho (by simp)
  · intro us w9 hC9 hg
    have q9 : us 5 = .bool (usesF c.kind).isSome := hg 8 _ rfl 5 rfl
    obtain ⟨B0, ul, hul, q3, hr3⟩ : UsesRow c.kind (us 4) w9 := hg 7 _ rfl 4 rfl
    generalize hds : dstsOf _ = ds
    obtain rfl : ds = [13, 14, 15, 16, 12, 17, 18, 4, 5] := hds.symm.trans rfl
    simp only [List.foldl_cons, List.foldl_nil, List.setIfInBounds_toArray, List.set_cons_zero, List.set_cons_succ]
    rw [q9]
    clear hg q9
    rw [q3]
    clear q3
    have HUL := Lib.hid hul
    have HR3 := Lib.hid hr3
    have HX9 := Lib.hid (HX.out.below hC9)
    have HR9 := Lib.hid (HR.out.below hC9)
    have HT9 := Lib.hid (HT.out.below hC9)
    have HP9 := Lib.hid (HP.out.below hC9)
    have HB9 := Lib.hid (HB.out.trans (hC9.mono HB.out.size))
    clear hul hr3 HX HR HT HP HB hC9 g0
    cases hk : (usesF c.kind).isSome
    case false =>
      have HK := Lib.hid hk
      clear hk
      go_upto_region 2 with fail
      refine wp_region_relg (fun w' => Below w9.heap.size w9 w') (goodBy [(19, .is (.bool false)), (20, .is (.bool true)), (21, .is (.bool true)), (22, .is undef), (23, .is undef), (24, .is undef), (25, .is undef), (26, .is undef), (27, .is (.bool true)), (28, .is (.bool true)), (29, .is undef), (30, .is undef), (31, .is undef), (32, .is (.bool true)), (33, .is (.bool true)), (34, .is undef), (35, .is undef), (36, .is undef), (37, .is undef), (38, .is undef), (39, .is undef), (40, .is undef), (41, .is undef), (42, .is undef), (43, .is (.bool true))]) (by first | assumption | kernel_rfl) (by first | rfl | kernel_rfl) (Below.refl _ _).drew ?_ ?_
      · intro i o ho ρ wx hCx hout hcon hdep
        have x1 : ρ (.tmp 1) = .pointer (some ⟨w.heap.size, 0, none⟩) := hout 1 (by decide)
        have x5 : ρ (.tmp 5) = .bool false := hout 5 (by decide)
        skip
        have y0 := cell_later hCx HX9.out.at.g0
        have y1 := cell_later hCx HX9.out.at.g1
        have y2 := cell_later hCx HX9.out.at.g2
        have y3 := cell_later hCx HX9.out.at.g3
        have y4 := cell_later hCx HX9.out.at.g4
        have y5 := cell_later hCx HX9.out.at.g5
        have y6 := cell_later hCx HX9.out.at.g6
        have y7 := cell_later hCx HX9.out.at.g7
        have y8 := cell_later hCx HX9.out.at.g8
        have y9 := cell_later hCx HX9.out.at.g9
        have yA := cell_later hCx HX9.out.at.gA
        have xc : ∀ c : Value, ρ (.const c) = c := fun c => hcon (.const c) (fun t h => by cases h)
        skip
        have xf : ∀ f : FuncId, ρ (.func f) = .func (.func f) #[] #[] := fun f => hcon (.func f) (fun t h => by cases h)
        match i, ho with
        | 0, ho =>
          simp only [List.getElem?_toArray, List.getElem?_cons_zero, List.getElem?_cons_succ, Option.some.injEq] at ho
          subst ho
          rw [if_pos (wantR_none rfl)]
          generalize hR : (fun (u : Value) (w' : World) => Below w9.heap.size w9 w' ∧ _) = R
          clear hout hcon hdep
          go_simp
          subst hR
          exact ⟨hCx, fun s u h => h, fun d hd => (by obtain rfl : 19 = d := Option.some.inj hd; exact rfl)⟩
        | 1, ho =>
          simp only [List.getElem?_toArray, List.getElem?_cons_zero, List.getElem?_cons_succ, Option.some.injEq] at ho
          subst ho
          rw [if_pos (wantR_none rfl)]
          have d19 := hdep ⟨0, .data⟩ (by simp) rfl _ rfl 19 rfl
          change ρ (.tmp 19) = _ at d19
          generalize hR : (fun (u : Value) (w' : World) => Below w9.heap.size w9 w' ∧ _) = R
          clear hout hcon hdep
          go_simp
          subst hR
          exact ⟨hCx, fun s u h => h, fun d hd => (by obtain rfl : 20 = d := Option.some.inj hd; exact rfl)⟩
        | 2, ho =>
          simp only [List.getElem?_toArray, List.getElem?_cons_zero, List.getElem?_cons_succ, Option.some.injEq] at ho
          subst ho
          rw [if_pos (wantR_none rfl)]
          have d20 := hdep ⟨1, .data⟩ (by simp) rfl _ rfl 20 rfl
          change ρ (.tmp 20) = _ at d20
          generalize hR : (fun (u : Value) (w' : World) => Below w9.heap.size w9 w' ∧ _) = R
          clear hout hcon hdep
          go_simp
          subst hR
          exact ⟨hCx, fun s u h => h, fun d hd => (by obtain rfl : 21 = d := Option.some.inj hd; exact rfl)⟩
        | 3, ho =>
          simp only [List.getElem?_toArray, List.getElem?_cons_zero, List.getElem?_cons_succ, Option.some.injEq] at ho
          subst ho
          have dG := hdep ⟨2, .guard⟩ (by simp) rfl _ rfl 21 rfl
          change ρ (.tmp 21) = _ at dG
          rw [if_neg (by rw [wantR_some rfl rfl rfl dG]; decide)]
          exact fun d hd => (by obtain rfl : 22 = d := Option.some.inj hd; exact rfl)
        | 4, ho =>
          simp only [List.getElem?_toArray, List.getElem?_cons_zero, List.getElem?_cons_succ, Option.some.injEq] at ho
          subst ho
          have dG := hdep ⟨2, .guard⟩ (by simp) rfl _ rfl 21 rfl
          change ρ (.tmp 21) = _ at dG
          rw [if_neg (by rw [wantR_some rfl rfl rfl dG]; decide)]
          exact fun d hd => (by obtain rfl : 23 = d := Option.some.inj hd; exact rfl)
        | 5, ho =>
          simp only [List.getElem?_toArray, List.getElem?_cons_zero, List.getElem?_cons_succ, Option.some.injEq] at ho
          subst ho
          have dG := hdep ⟨2, .guard⟩ (by simp) rfl _ rfl 21 rfl
          change ρ (.tmp 21) = _ at dG
          rw [if_neg (by rw [wantR_some rfl rfl rfl dG]; decide)]
          exact fun d hd => (by obtain rfl : 24 = d := Option.some.inj hd; exact rfl)
        | 6, ho =>
          simp only [List.getElem?_toArray, List.getElem?_cons_zero, List.getElem?_cons_succ, Option.some.injEq] at ho
          subst ho
          have dG := hdep ⟨2, .guard⟩ (by simp) rfl _ rfl 21 rfl
          change ρ (.tmp 21) = _ at dG
          rw [if_neg (by rw [wantR_some rfl rfl rfl dG]; decide)]
          exact fun d hd => (by obtain rfl : 25 = d := Option.some.inj hd; exact rfl)
        | 7, ho =>
          simp only [List.getElem?_toArray, List.getElem?_cons_zero, List.getElem?_cons_succ, Option.some.injEq] at ho
          subst ho
          have dG := hdep ⟨2, .guard⟩ (by simp) rfl _ rfl 21 rfl
          change ρ (.tmp 21) = _ at dG
          rw [if_neg (by rw [wantR_some rfl rfl rfl dG]; decide)]
          exact fun d hd => (by obtain rfl : 26 = d := Option.some.inj hd; exact rfl)
        | 8, ho =>
          simp only [List.getElem?_toArray, List.getElem?_cons_zero, List.getElem?_cons_succ, Option.some.injEq] at ho
          subst ho
          rw [if_pos (wantR_none rfl)]
          have d21 := hdep ⟨2, .data⟩ (by simp) rfl _ rfl 21 rfl
          change ρ (.tmp 21) = _ at d21
          have d26 := hdep ⟨7, .data⟩ (by simp) rfl _ rfl 26 rfl
          change ρ (.tmp 26) = _ at d26
          generalize hR : (fun (u : Value) (w' : World) => Below w9.heap.size w9 w' ∧ _) = R
          clear hout hcon hdep
          go_simp
          subst hR
          exact ⟨hCx, fun s u h => h, fun d hd => (by obtain rfl : 27 = d := Option.some.inj hd; exact rfl)⟩
        | 9, ho =>
          simp only [List.getElem?_toArray, List.getElem?_cons_zero, List.getElem?_cons_succ, Option.some.injEq] at ho
          subst ho
          rw [if_pos (wantR_none rfl)]
          have d27 := hdep ⟨8, .data⟩ (by simp) rfl _ rfl 27 rfl
          change ρ (.tmp 27) = _ at d27
          generalize hR : (fun (u : Value) (w' : World) => Below w9.heap.size w9 w' ∧ _) = R
          clear hout hcon hdep
          go_simp
          subst hR
          exact ⟨hCx, fun s u h => h, fun d hd => (by obtain rfl : 28 = d := Option.some.inj hd; exact rfl)⟩
        | 10, ho =>
          simp only [List.getElem?_toArray, List.getElem?_cons_zero, List.getElem?_cons_succ, Option.some.injEq] at ho
          subst ho
          have dG := hdep ⟨9, .guard⟩ (by simp) rfl _ rfl 28 rfl
          change ρ (.tmp 28) = _ at dG
          rw [if_neg (by rw [wantR_some rfl rfl rfl dG]; decide)]
          exact fun d hd => (by obtain rfl : 29 = d := Option.some.inj hd; exact rfl)
        | 11, ho =>
          simp only [List.getElem?_toArray, List.getElem?_cons_zero, List.getElem?_cons_succ, Option.some.injEq] at ho
          subst ho
          have dG := hdep ⟨9, .guard⟩ (by simp) rfl _ rfl 28 rfl
          change ρ (.tmp 28) = _ at dG
          rw [if_neg (by rw [wantR_some rfl rfl rfl dG]; decide)]
          exact fun d hd => (by obtain rfl : 30 = d := Option.some.inj hd; exact rfl)
        | 12, ho =>
          simp only [List.getElem?_toArray, List.getElem?_cons_zero, List.getElem?_cons_succ, Option.some.injEq] at ho
          subst ho
          have dG := hdep ⟨9, .guard⟩ (by simp) rfl _ rfl 28 rfl
          change ρ (.tmp 28) = _ at dG
          rw [if_neg (by rw [wantR_some rfl rfl rfl dG]; decide)]
          exact fun d hd => (by obtain rfl : 31 = d := Option.some.inj hd; exact rfl)
        | 13, ho =>
          simp only [List.getElem?_toArray, List.getElem?_cons_zero, List.getElem?_cons_succ, Option.some.injEq] at ho
          subst ho
          rw [if_pos (wantR_none rfl)]
          have d28 := hdep ⟨9, .data⟩ (by simp) rfl _ rfl 28 rfl
          change ρ (.tmp 28) = _ at d28
          have d31 := hdep ⟨12, .data⟩ (by simp) rfl _ rfl 31 rfl
          change ρ (.tmp 31) = _ at d31
          generalize hR : (fun (u : Value) (w' : World) => Below w9.heap.size w9 w' ∧ _) = R
          clear hout hcon hdep
          go_simp
          subst hR
          exact ⟨hCx, fun s u h => h, fun d hd => (by obtain rfl : 32 = d := Option.some.inj hd; exact rfl)⟩
        | 14, ho =>
          simp only [List.getElem?_toArray, List.getElem?_cons_zero, List.getElem?_cons_succ, Option.some.injEq] at ho
          subst ho
          rw [if_pos (wantR_none rfl)]
          have d32 := hdep ⟨13, .data⟩ (by simp) rfl _ rfl 32 rfl
          change ρ (.tmp 32) = _ at d32
          generalize hR : (fun (u : Value) (w' : World) => Below w9.heap.size w9 w' ∧ _) = R
          clear hout hcon hdep
          go_simp
          subst hR
          exact ⟨hCx, fun s u h => h, fun d hd => (by obtain rfl : 33 = d := Option.some.inj hd; exact rfl)⟩
        | 15, ho =>
          simp only [List.getElem?_toArray, List.getElem?_cons_zero, List.getElem?_cons_succ, Option.some.injEq] at ho
          subst ho
          have dG := hdep ⟨14, .guard⟩ (by simp) rfl _ rfl 33 rfl
          change ρ (.tmp 33) = _ at dG
          rw [if_neg (by rw [wantR_some rfl rfl rfl dG]; decide)]
          exact fun d hd => (by obtain rfl : 34 = d := Option.some.inj hd; exact rfl)
        | 16, ho =>
          simp only [List.getElem?_toArray, List.getElem?_cons_zero, List.getElem?_cons_succ, Option.some.injEq] at ho
          subst ho
          have dG := hdep ⟨14, .guard⟩ (by simp) rfl _ rfl 33 rfl
          change ρ (.tmp 33) = _ at dG
          rw [if_neg (by rw [wantR_some rfl rfl rfl dG]; decide)]
          exact fun d hd => (by obtain rfl : 35 = d := Option.some.inj hd; exact rfl)
        | 17, ho =>
          simp only [List.getElem?_toArray, List.getElem?_cons_zero, List.getElem?_cons_succ, Option.some.injEq] at ho
          subst ho
          have dG := hdep ⟨14, .guard⟩ (by simp) rfl _ rfl 33 rfl
          change ρ (.tmp 33) = _ at dG
          rw [if_neg (by rw [wantR_some rfl rfl rfl dG]; decide)]
          exact fun d hd => (by obtain rfl : 36 = d := Option.some.inj hd; exact rfl)
        | 18, ho =>
          simp only [List.getElem?_toArray, List.getElem?_cons_zero, List.getElem?_cons_succ, Option.some.injEq] at ho
          subst ho
          have dG := hdep ⟨14, .guard⟩ (by simp) rfl _ rfl 33 rfl
          change ρ (.tmp 33) = _ at dG
          rw [if_neg (by rw [wantR_some rfl rfl rfl dG]; decide)]
          exact fun d hd => (by obtain rfl : 37 = d := Option.some.inj hd; exact rfl)
        | 19, ho =>
          simp only [List.getElem?_toArray, List.getElem?_cons_zero, List.getElem?_cons_succ, Option.some.injEq] at ho
          subst ho
          have dG := hdep ⟨14, .guard⟩ (by simp) rfl _ rfl 33 rfl
          change ρ (.tmp 33) = _ at dG
          rw [if_neg (by rw [wantR_some rfl rfl rfl dG]; decide)]
          exact fun d hd => (by obtain rfl : 38 = d := Option.some.inj hd; exact rfl)
        | 20, ho =>
          simp only [List.getElem?_toArray, List.getElem?_cons_zero, List.getElem?_cons_succ, Option.some.injEq] at ho
          subst ho
          have dG := hdep ⟨19, .guard⟩ (by simp) rfl _ rfl 38 rfl
          change ρ (.tmp 38) = _ at dG
          rw [if_neg (by rw [wantR_undef rfl rfl rfl dG]; decide)]
          exact fun d hd => (by obtain rfl : 39 = d := Option.some.inj hd; exact rfl)
        | 21, ho =>
          simp only [List.getElem?_toArray, List.getElem?_cons_zero, List.getElem?_cons_succ, Option.some.injEq] at ho
          subst ho
          have dG := hdep ⟨19, .guard⟩ (by simp) rfl _ rfl 38 rfl
          change ρ (.tmp 38) = _ at dG
          rw [if_neg (by rw [wantR_undef rfl rfl rfl dG]; decide)]
          exact fun d hd => (by obtain rfl : 40 = d := Option.some.inj hd; exact rfl)
        | 22, ho =>
          simp only [List.getElem?_toArray, List.getElem?_cons_zero, List.getElem?_cons_succ, Option.some.injEq] at ho
          subst ho
          have dG := hdep ⟨19, .guard⟩ (by simp) rfl _ rfl 38 rfl
          change ρ (.tmp 38) = _ at dG
          rw [if_neg (by rw [wantR_undef rfl rfl rfl dG]; decide)]
          exact fun d hd => (by obtain rfl : 41 = d := Option.some.inj hd; exact rfl)
        | 23, ho =>
          simp only [List.getElem?_toArray, List.getElem?_cons_zero, List.getElem?_cons_succ, Option.some.injEq] at ho
          subst ho
          have dG := hdep ⟨14, .guard⟩ (by simp) rfl _ rfl 33 rfl
          change ρ (.tmp 33) = _ at dG
          rw [if_neg (by rw [wantR_some rfl rfl rfl dG]; decide)]
          exact fun d hd => (by obtain rfl : 42 = d := Option.some.inj hd; exact rfl)
        | 24, ho =>
          simp only [List.getElem?_toArray, List.getElem?_cons_zero, List.getElem?_cons_succ, Option.some.injEq] at ho
          subst ho
          rw [if_pos (wantR_none rfl)]
          have d33 := hdep ⟨14, .data⟩ (by simp) rfl _ rfl 33 rfl
          change ρ (.tmp 33) = _ at d33
          have d42 := hdep ⟨23, .data⟩ (by simp) rfl _ rfl 42 rfl
          change ρ (.tmp 42) = _ at d42
          generalize hR : (fun (u : Value) (w' : World) => Below w9.heap.size w9 w' ∧ _) = R
          clear hout hcon hdep
          go_simp
          subst hR
          exact ⟨hCx, fun s u h => h, fun d hd => (by obtain rfl : 43 = d := Option.some.inj hd; exact rfl)⟩
        | n + 25, ho => exact absurd ho (by simp)
      · intro uz wA hCA hg
        have qA : uz 43 = .bool true := hg 24 _ rfl 43 rfl
        generalize hds : dstsOf _ = ds
        obtain rfl : ds = [19, 20, 21, 22, 23, 24, 25, 26, 27, 28, 29, 30, 31, 32, 33, 34, 35, 36, 37, 38, 39, 40, 41, 42, 43] := hds.symm.trans rfl
        simp only [List.foldl_cons, List.foldl_nil, List.setIfInBounds_toArray, List.set_cons_zero, List.set_cons_succ]
        rw [qA]
        clear hg qA
        have HBA := Lib.hid (HB9.out.trans (hCA.mono HB9.out.size))
        have HNO := Lib.hid (textB_none HK.out)
        clear hCA
        go_wp2_with fail
        go_ret2
        exact textPost_no HNO.out HBA.out
    case true =>
      have HK := Lib.hid hk
      have hus := uses_some hk
      rw [HUL.out] at hus
      obtain ⟨hn0, hk1, hk22⟩ := hus
      clear hk
      obtain ⟨b, oo, rfl, hbl, hc0⟩ := HR3.out 0 hn0
      have HL0' := Lib.hid (show ul[0]? = some ul[0] from List.getElem?_eq_getElem hn0)
      obtain ⟨l0, hl0⟩ : ∃ x, ul[0] = x := ⟨_, rfl⟩
      rw [hl0] at hc0 HL0'
      have HLE := Lib.hid (show ((usesF c.kind).getD [])[0]? = some l0 by rw [HUL.out]; exact HL0'.out)
      rw [Nat.add_zero] at hc0
      have HL0 := Lib.hid hc0
      clear hc0 hbl hl0 HL0'
      obtain ⟨m, hm⟩ : ∃ x, c.same (trimF c) = x := ⟨_, rfl⟩
      have HSM := Lib.hid (fun wx TB tc (h : IntRow wx A c.reqs) (hi : IntRow wx TB (trimF c).reqs) => hm ▸ callSame_any c (trimF c) A TB cap tc wx HC.out (trimF_ok HC.out) h hi (by have := HL.out; omega) (by have := HL.out; have := trimF_len HC.out.op; omega))
      have HM := Lib.hid hm
      clear hm
      go_upto_region 2 with fail
      cases m
      case false =>
        refine wp_region_relg (fun w' => Below w9.heap.size w9 w') (goodBy [(19, .is (.bool true)), (20, .is (.bool false)), (21, .is (.bool false)), (22, .is (.agg (clCells c A cap))), (23, .is (.agg (clCells c A cap))), (24, .such (TrimGood c) (TrimGood.stay c)), (25, .is (.bool false)), (26, .is (.bool true)), (27, .is (.bool true)), (28, .is (.bool true)), (29, .is undef), (30, .is undef), (31, .is undef), (32, .is (.bool true)), (33, .is (.bool true)), (34, .is undef), (35, .is undef), (36, .is undef), (37, .is undef), (38, .is undef), (39, .is undef), (40, .is undef), (41, .is undef), (42, .is undef), (43, .is (.bool true))]) (by first | assumption | kernel_rfl) (by first | rfl | kernel_rfl) (Below.refl _ _).drew ?_ ?_
        · intro i o ho ρ wx hCx hout hcon hdep
          have x1 : ρ (.tmp 1) = .pointer (some ⟨w.heap.size, 0, none⟩) := hout 1 (by decide)
          have x5 : ρ (.tmp 5) = .bool true := hout 5 (by decide)
          have x4 : ρ (.tmp 4) = .slice (some ⟨b, oo, none⟩) ul.length ul.length := hout 4 (by decide)
          have y0 := cell_later hCx HX9.out.at.g0
          have y1 := cell_later hCx HX9.out.at.g1
          have y2 := cell_later hCx HX9.out.at.g2
          have y3 := cell_later hCx HX9.out.at.g3
          have y4 := cell_later hCx HX9.out.at.g4
          have y5 := cell_later hCx HX9.out.at.g5
          have y6 := cell_later hCx HX9.out.at.g6
          have y7 := cell_later hCx HX9.out.at.g7
          have y8 := cell_later hCx HX9.out.at.g8
          have y9 := cell_later hCx HX9.out.at.g9
          have yA := cell_later hCx HX9.out.at.gA
          have xc : ∀ c : Value, ρ (.const c) = c := fun c => hcon (.const c) (fun t h => by cases h)
          skip
          have xf : ∀ f : FuncId, ρ (.func f) = .func (.func f) #[] #[] := fun f => hcon (.func f) (fun t h => by cases h)
          match i, ho with
          | 0, ho =>
            simp only [List.getElem?_toArray, List.getElem?_cons_zero, List.getElem?_cons_succ, Option.some.injEq] at ho
            subst ho
            rw [if_pos (wantR_none rfl)]
            generalize hR : (fun (u : Value) (w' : World) => Below w9.heap.size w9 w' ∧ _) = R
            clear hout hcon hdep
            go_simp
            subst hR
            exact ⟨hCx, fun s u h => h, fun d hd => (by obtain rfl : 19 = d := Option.some.inj hd; exact rfl)⟩
          | 1, ho =>
            simp only [List.getElem?_toArray, List.getElem?_cons_zero, List.getElem?_cons_succ, Option.some.injEq] at ho
            subst ho
            rw [if_pos (wantR_none rfl)]
            have d19 := hdep ⟨0, .data⟩ (by simp) rfl _ rfl 19 rfl
            change ρ (.tmp 19) = _ at d19
            generalize hR : (fun (u : Value) (w' : World) => Below w9.heap.size w9 w' ∧ _) = R
            clear hout hcon hdep
            go_simp
            subst hR
            exact ⟨hCx, fun s u h => h, fun d hd => (by obtain rfl : 20 = d := Option.some.inj hd; exact rfl)⟩
          | 2, ho =>
            simp only [List.getElem?_toArray, List.getElem?_cons_zero, List.getElem?_cons_succ, Option.some.injEq] at ho
            subst ho
            rw [if_pos (wantR_none rfl)]
            have d20 := hdep ⟨1, .data⟩ (by simp) rfl _ rfl 20 rfl
            change ρ (.tmp 20) = _ at d20
            generalize hR : (fun (u : Value) (w' : World) => Below w9.heap.size w9 w' ∧ _) = R
            clear hout hcon hdep
            go_simp
            subst hR
            exact ⟨hCx, fun s u h => h, fun d hd => (by obtain rfl : 21 = d := Option.some.inj hd; exact rfl)⟩
          | 3, ho =>
            simp only [List.getElem?_toArray, List.getElem?_cons_zero, List.getElem?_cons_succ, Option.some.injEq] at ho
            subst ho
            have dG := hdep ⟨2, .guard⟩ (by simp) rfl _ rfl 21 rfl
            change ρ (.tmp 21) = _ at dG
            rw [if_pos (by rw [wantR_some rfl rfl rfl dG]; decide)]
            clear dG
            generalize hR : (fun (u : Value) (w' : World) => Below w9.heap.size w9 w' ∧ _) = R
            clear hout hcon hdep
            go_simp
            subst hR
            exact ⟨hCx, fun s u h => h, fun d hd => (by obtain rfl : 22 = d := Option.some.inj hd; exact rfl)⟩
          | 4, ho =>
            simp only [List.getElem?_toArray, List.getElem?_cons_zero, List.getElem?_cons_succ, Option.some.injEq] at ho
            subst ho
            have dG := hdep ⟨2, .guard⟩ (by simp) rfl _ rfl 21 rfl
            change ρ (.tmp 21) = _ at dG
            rw [if_pos (by rw [wantR_some rfl rfl rfl dG]; decide)]
            clear dG
            generalize hR : (fun (u : Value) (w' : World) => Below w9.heap.size w9 w' ∧ _) = R
            clear hout hcon hdep
            go_simp
            subst hR
            exact ⟨hCx, fun s u h => h, fun d hd => (by obtain rfl : 23 = d := Option.some.inj hd; exact rfl)⟩
          | 5, ho =>
            simp only [List.getElem?_toArray, List.getElem?_cons_zero, List.getElem?_cons_succ, Option.some.injEq] at ho
            subst ho
            have dG := hdep ⟨2, .guard⟩ (by simp) rfl _ rfl 21 rfl
            change ρ (.tmp 21) = _ at dG
            rw [if_pos (by rw [wantR_some rfl rfl rfl dG]; decide)]
            clear dG
            have d23 := hdep ⟨4, .data⟩ (by simp) rfl _ rfl 23 rfl
            change ρ (.tmp 23) = _ at d23
            generalize hR : (fun (u : Value) (w' : World) => Below w9.heap.size w9 w' ∧ _) = R
            clear hout hcon hdep
            go_simp
            rw [stepOk_enter]
            refine (trim_any c A cap wx (HR9.out.below hCx) (by have := HL.out; omega) HC.out.op).mono ?_
            rintro e w2 ⟨TB, tc, rfl, hi2, hf2, hb2⟩
            subst hR
            exact ⟨_, rfl, hCx.trans (hb2.mono hCx.size), goodBy_stay hb2, fun d hd => (by obtain rfl : 24 = d := Option.some.inj hd; exact ⟨TB, tc, rfl, hi2⟩)⟩
          | 6, ho =>
            simp only [List.getElem?_toArray, List.getElem?_cons_zero, List.getElem?_cons_succ, Option.some.injEq] at ho
            subst ho
            have dG := hdep ⟨2, .guard⟩ (by simp) rfl _ rfl 21 rfl
            change ρ (.tmp 21) = _ at dG
            rw [if_pos (by rw [wantR_some rfl rfl rfl dG]; decide)]
            clear dG
            have d22 := hdep ⟨3, .data⟩ (by simp) rfl _ rfl 22 rfl
            change ρ (.tmp 22) = _ at d22
            have d24 := hdep ⟨5, .data⟩ (by simp) rfl _ rfl 24 rfl
            change (TrimGood c) (ρ (.tmp 24)) wx at d24
            generalize hR : (fun (u : Value) (w' : World) => Below w9.heap.size w9 w' ∧ _) = R
            clear hout hcon hdep
            go_simp
            obtain ⟨TB, tc, ht, hi⟩ := d24
            go_simp
            rw [stepOk_enter]
            refine (HSM.out wx TB tc (HR9.out.below hCx) hi).mono ?_
            rintro e w2 ⟨rfl, hb2⟩
            subst hR
            exact ⟨_, rfl, hCx.trans (hb2.mono hCx.size), goodBy_stay hb2, fun d hd => (by obtain rfl : 25 = d := Option.some.inj hd; exact rfl)⟩
          | 7, ho =>
            simp only [List.getElem?_toArray, List.getElem?_cons_zero, List.getElem?_cons_succ, Option.some.injEq] at ho
            subst ho
            have dG := hdep ⟨2, .guard⟩ (by simp) rfl _ rfl 21 rfl
            change ρ (.tmp 21) = _ at dG
            rw [if_pos (by rw [wantR_some rfl rfl rfl dG]; decide)]
            clear dG
            have d25 := hdep ⟨6, .data⟩ (by simp) rfl _ rfl 25 rfl
            change ρ (.tmp 25) = _ at d25
            generalize hR : (fun (u : Value) (w' : World) => Below w9.heap.size w9 w' ∧ _) = R
            clear hout hcon hdep
            go_simp
            subst hR
            exact ⟨hCx, fun s u h => h, fun d hd => (by obtain rfl : 26 = d := Option.some.inj hd; exact rfl)⟩
          | 8, ho =>
            simp only [List.getElem?_toArray, List.getElem?_cons_zero, List.getElem?_cons_succ, Option.some.injEq] at ho
            subst ho
            rw [if_pos (wantR_none rfl)]
            have d21 := hdep ⟨2, .data⟩ (by simp) rfl _ rfl 21 rfl
            change ρ (.tmp 21) = _ at d21
            have d26 := hdep ⟨7, .data⟩ (by simp) rfl _ rfl 26 rfl
            change ρ (.tmp 26) = _ at d26
            generalize hR : (fun (u : Value) (w' : World) => Below w9.heap.size w9 w' ∧ _) = R
            clear hout hcon hdep
            go_simp
            subst hR
            exact ⟨hCx, fun s u h => h, fun d hd => (by obtain rfl : 27 = d := Option.some.inj hd; exact rfl)⟩
          | 9, ho =>
            simp only [List.getElem?_toArray, List.getElem?_cons_zero, List.getElem?_cons_succ, Option.some.injEq] at ho
            subst ho
            rw [if_pos (wantR_none rfl)]
            have d27 := hdep ⟨8, .data⟩ (by simp) rfl _ rfl 27 rfl
            change ρ (.tmp 27) = _ at d27
            generalize hR : (fun (u : Value) (w' : World) => Below w9.heap.size w9 w' ∧ _) = R
            clear hout hcon hdep
            go_simp
            subst hR
            exact ⟨hCx, fun s u h => h, fun d hd => (by obtain rfl : 28 = d := Option.some.inj hd; exact rfl)⟩
          | 10, ho =>
            simp only [List.getElem?_toArray, List.getElem?_cons_zero, List.getElem?_cons_succ, Option.some.injEq] at ho
            subst ho
            have dG := hdep ⟨9, .guard⟩ (by simp) rfl _ rfl 28 rfl
            change ρ (.tmp 28) = _ at dG
            rw [if_neg (by rw [wantR_some rfl rfl rfl dG]; decide)]
            exact fun d hd => (by obtain rfl : 29 = d := Option.some.inj hd; exact rfl)
          | 11, ho =>
            simp only [List.getElem?_toArray, List.getElem?_cons_zero, List.getElem?_cons_succ, Option.some.injEq] at ho
            subst ho
            have dG := hdep ⟨9, .guard⟩ (by simp) rfl _ rfl 28 rfl
            change ρ (.tmp 28) = _ at dG
            rw [if_neg (by rw [wantR_some rfl rfl rfl dG]; decide)]
            exact fun d hd => (by obtain rfl : 30 = d := Option.some.inj hd; exact rfl)
          | 12, ho =>
            simp only [List.getElem?_toArray, List.getElem?_cons_zero, List.getElem?_cons_succ, Option.some.injEq] at ho
            subst ho
            have dG := hdep ⟨9, .guard⟩ (by simp) rfl _ rfl 28 rfl
            change ρ (.tmp 28) = _ at dG
            rw [if_neg (by rw [wantR_some rfl rfl rfl dG]; decide)]
            exact fun d hd => (by obtain rfl : 31 = d := Option.some.inj hd; exact rfl)
          | 13, ho =>
            simp only [List.getElem?_toArray, List.getElem?_cons_zero, List.getElem?_cons_succ, Option.some.injEq] at ho
            subst ho
            rw [if_pos (wantR_none rfl)]
            have d28 := hdep ⟨9, .data⟩ (by simp) rfl _ rfl 28 rfl
            change ρ (.tmp 28) = _ at d28
            have d31 := hdep ⟨12, .data⟩ (by simp) rfl _ rfl 31 rfl
            change ρ (.tmp 31) = _ at d31
            generalize hR : (fun (u : Value) (w' : World) => Below w9.heap.size w9 w' ∧ _) = R
            clear hout hcon hdep
            go_simp
            subst hR
            exact ⟨hCx, fun s u h => h, fun d hd => (by obtain rfl : 32 = d := Option.some.inj hd; exact rfl)⟩
          | 14, ho =>
            simp only [List.getElem?_toArray, List.getElem?_cons_zero, List.getElem?_cons_succ, Option.some.injEq] at ho
            subst ho
            rw [if_pos (wantR_none rfl)]
            have d32 := hdep ⟨13, .data⟩ (by simp) rfl _ rfl 32 rfl
            change ρ (.tmp 32) = _ at d32
            generalize hR : (fun (u : Value) (w' : World) => Below w9.heap.size w9 w' ∧ _) = R
            clear hout hcon hdep
            go_simp
            subst hR
            exact ⟨hCx, fun s u h => h, fun d hd => (by obtain rfl : 33 = d := Option.some.inj hd; exact rfl)⟩
          | 15, ho =>
            simp only [List.getElem?_toArray, List.getElem?_cons_zero, List.getElem?_cons_succ, Option.some.injEq] at ho
            subst ho
            have dG := hdep ⟨14, .guard⟩ (by simp) rfl _ rfl 33 rfl
            change ρ (.tmp 33) = _ at dG
            rw [if_neg (by rw [wantR_some rfl rfl rfl dG]; decide)]
            exact fun d hd => (by obtain rfl : 34 = d := Option.some.inj hd; exact rfl)
          | 16, ho =>
            simp only [List.getElem?_toArray, List.getElem?_cons_zero, List.getElem?_cons_succ, Option.some.injEq] at ho
            subst ho
            have dG := hdep ⟨14, .guard⟩ (by simp) rfl _ rfl 33 rfl
            change ρ (.tmp 33) = _ at dG
            rw [if_neg (by rw [wantR_some rfl rfl rfl dG]; decide)]
            exact fun d hd => (by obtain rfl : 35 = d := Option.some.inj hd; exact rfl)
          | 17, ho =>
            simp only [List.getElem?_toArray, List.getElem?_cons_zero, List.getElem?_cons_succ, Option.some.injEq] at ho
            subst ho
            have dG := hdep ⟨14, .guard⟩ (by simp) rfl _ rfl 33 rfl
            change ρ (.tmp 33) = _ at dG
            rw [if_neg (by rw [wantR_some rfl rfl rfl dG]; decide)]
            exact fun d hd => (by obtain rfl : 36 = d := Option.some.inj hd; exact rfl)
          | 18, ho =>
            simp only [List.getElem?_toArray, List.getElem?_cons_zero, List.getElem?_cons_succ, Option.some.injEq] at ho
            subst ho
            have dG := hdep ⟨14, .guard⟩ (by simp) rfl _ rfl 33 rfl
            change ρ (.tmp 33) = _ at dG
            rw [if_neg (by rw [wantR_some rfl rfl rfl dG]; decide)]
            exact fun d hd => (by obtain rfl : 37 = d := Option.some.inj hd; exact rfl)
          | 19, ho =>
            simp only [List.getElem?_toArray, List.getElem?_cons_zero, List.getElem?_cons_succ, Option.some.injEq] at ho
            subst ho
            have dG := hdep ⟨14, .guard⟩ (by simp) rfl _ rfl 33 rfl
            change ρ (.tmp 33) = _ at dG
            rw [if_neg (by rw [wantR_some rfl rfl rfl dG]; decide)]
            exact fun d hd => (by obtain rfl : 38 = d := Option.some.inj hd; exact rfl)
          | 20, ho =>
            simp only [List.getElem?_toArray, List.getElem?_cons_zero, List.getElem?_cons_succ, Option.some.injEq] at ho
            subst ho
            have dG := hdep ⟨19, .guard⟩ (by simp) rfl _ rfl 38 rfl
            change ρ (.tmp 38) = _ at dG
            rw [if_neg (by rw [wantR_undef rfl rfl rfl dG]; decide)]
            exact fun d hd => (by obtain rfl : 39 = d := Option.some.inj hd; exact rfl)
          | 21, ho =>
            simp only [List.getElem?_toArray, List.getElem?_cons_zero, List.getElem?_cons_succ, Option.some.injEq] at ho
            subst ho
            have dG := hdep ⟨19, .guard⟩ (by simp) rfl _ rfl 38 rfl
            change ρ (.tmp 38) = _ at dG
            rw [if_neg (by rw [wantR_undef rfl rfl rfl dG]; decide)]
            exact fun d hd => (by obtain rfl : 40 = d := Option.some.inj hd; exact rfl)
          | 22, ho =>
            simp only [List.getElem?_toArray, List.getElem?_cons_zero, List.getElem?_cons_succ, Option.some.injEq] at ho
            subst ho
            have dG := hdep ⟨19, .guard⟩ (by simp) rfl _ rfl 38 rfl
            change ρ (.tmp 38) = _ at dG
            rw [if_neg (by rw [wantR_undef rfl rfl rfl dG]; decide)]
            exact fun d hd => (by obtain rfl : 41 = d := Option.some.inj hd; exact rfl)
          | 23, ho =>
            simp only [List.getElem?_toArray, List.getElem?_cons_zero, List.getElem?_cons_succ, Option.some.injEq] at ho
            subst ho
            have dG := hdep ⟨14, .guard⟩ (by simp) rfl _ rfl 33 rfl
            change ρ (.tmp 33) = _ at dG
            rw [if_neg (by rw [wantR_some rfl rfl rfl dG]; decide)]
            exact fun d hd => (by obtain rfl : 42 = d := Option.some.inj hd; exact rfl)
          | 24, ho =>
            simp only [List.getElem?_toArray, List.getElem?_cons_zero, List.getElem?_cons_succ, Option.some.injEq] at ho
            subst ho
            rw [if_pos (wantR_none rfl)]
            have d33 := hdep ⟨14, .data⟩ (by simp) rfl _ rfl 33 rfl
            change ρ (.tmp 33) = _ at d33
            have d42 := hdep ⟨23, .data⟩ (by simp) rfl _ rfl 42 rfl
            change ρ (.tmp 42) = _ at d42
            generalize hR : (fun (u : Value) (w' : World) => Below w9.heap.size w9 w' ∧ _) = R
            clear hout hcon hdep
            go_simp
            subst hR
            exact ⟨hCx, fun s u h => h, fun d hd => (by obtain rfl : 43 = d := Option.some.inj hd; exact rfl)⟩
          | n + 25, ho => exact absurd ho (by simp)
        · intro uz wA hCA hg
          have qA : uz 43 = .bool true := hg 24 _ rfl 43 rfl
          generalize hds : dstsOf _ = ds
          obtain rfl : ds = [19, 20, 21, 22, 23, 24, 25, 26, 27, 28, 29, 30, 31, 32, 33, 34, 35, 36, 37, 38, 39, 40, 41, 42, 43] := hds.symm.trans rfl
          simp only [List.foldl_cons, List.foldl_nil, List.setIfInBounds_toArray, List.set_cons_zero, List.set_cons_succ]
          rw [qA]
          clear hg qA
          have HBA := Lib.hid (HB9.out.trans (hCA.mono HB9.out.size))
          have HNO := Lib.hid (textB_same HM.out)
          clear hCA
          go_wp2_with fail
          go_ret2
          exact textPost_no HNO.out HBA.out
      case true =>
      by_cases ho : c.op ≤ 2
      case neg =>
        have hd2 : decide (2 < c.op) = true := by simp; omega
        have HNO1 := Lib.hid (textB_op ho)
        clear ho
        refine wp_region_relg (fun w' => Below w9.heap.size w9 w') (goodBy [(19, .is (.bool true)), (20, .is (.bool false)), (21, .is (.bool false)), (22, .is (.agg (clCells c A cap))), (23, .is (.agg (clCells c A cap))), (24, .such (TrimGood c) (TrimGood.stay c)), (25, .is (.bool true)), (26, .is (.bool false)), (27, .is (.bool false)), (28, .is (.bool false)), (29, .is (.pointer (some ⟨w.heap.size, 7, none⟩))), (30, .is (.int .u8 c.op)), (31, .is (.bool true)), (32, .is (.bool true)), (33, .is (.bool true)), (34, .is undef), (35, .is undef), (36, .is undef), (37, .is undef), (38, .is undef), (39, .is undef), (40, .is undef), (41, .is undef), (42, .is undef), (43, .is (.bool true))]) (by first | assumption | kernel_rfl) (by first | rfl | kernel_rfl) (Below.refl _ _).drew ?_ ?_
        · intro i o ho ρ wx hCx hout hcon hdep
          have x1 : ρ (.tmp 1) = .pointer (some ⟨w.heap.size, 0, none⟩) := hout 1 (by decide)
          have x5 : ρ (.tmp 5) = .bool true := hout 5 (by decide)
          have x4 : ρ (.tmp 4) = .slice (some ⟨b, oo, none⟩) ul.length ul.length := hout 4 (by decide)
          have y0 := cell_later hCx HX9.out.at.g0
          have y1 := cell_later hCx HX9.out.at.g1
          have y2 := cell_later hCx HX9.out.at.g2
          have y3 := cell_later hCx HX9.out.at.g3
          have y4 := cell_later hCx HX9.out.at.g4
          have y5 := cell_later hCx HX9.out.at.g5
          have y6 := cell_later hCx HX9.out.at.g6
          have y7 := cell_later hCx HX9.out.at.g7
          have y8 := cell_later hCx HX9.out.at.g8
          have y9 := cell_later hCx HX9.out.at.g9
          have yA := cell_later hCx HX9.out.at.gA
          have xc : ∀ c : Value, ρ (.const c) = c := fun c => hcon (.const c) (fun t h => by cases h)
          skip
          have xf : ∀ f : FuncId, ρ (.func f) = .func (.func f) #[] #[] := fun f => hcon (.func f) (fun t h => by cases h)
          match i, ho with
          | 0, ho =>
            simp only [List.getElem?_toArray, List.getElem?_cons_zero, List.getElem?_cons_succ, Option.some.injEq] at ho
            subst ho
            rw [if_pos (wantR_none rfl)]
            generalize hR : (fun (u : Value) (w' : World) => Below w9.heap.size w9 w' ∧ _) = R
            clear hout hcon hdep
            go_simp
            subst hR
            exact ⟨hCx, fun s u h => h, fun d hd => (by obtain rfl : 19 = d := Option.some.inj hd; exact rfl)⟩
          | 1, ho =>
            simp only [List.getElem?_toArray, List.getElem?_cons_zero, List.getElem?_cons_succ, Option.some.injEq] at ho
            subst ho
            rw [if_pos (wantR_none rfl)]
            have d19 := hdep ⟨0, .data⟩ (by simp) rfl _ rfl 19 rfl
            change ρ (.tmp 19) = _ at d19
            generalize hR : (fun (u : Value) (w' : World) => Below w9.heap.size w9 w' ∧ _) = R
            clear hout hcon hdep
            go_simp
            subst hR
            exact ⟨hCx, fun s u h => h, fun d hd => (by obtain rfl : 20 = d := Option.some.inj hd; exact rfl)⟩
          | 2, ho =>
            simp only [List.getElem?_toArray, List.getElem?_cons_zero, List.getElem?_cons_succ, Option.some.injEq] at ho
            subst ho
            rw [if_pos (wantR_none rfl)]
            have d20 := hdep ⟨1, .data⟩ (by simp) rfl _ rfl 20 rfl
            change ρ (.tmp 20) = _ at d20
            generalize hR : (fun (u : Value) (w' : World) => Below w9.heap.size w9 w' ∧ _) = R
            clear hout hcon hdep
            go_simp
            subst hR
            exact ⟨hCx, fun s u h => h, fun d hd => (by obtain rfl : 21 = d := Option.some.inj hd; exact rfl)⟩
          | 3, ho =>
            simp only [List.getElem?_toArray, List.getElem?_cons_zero, List.getElem?_cons_succ, Option.some.injEq] at ho
            subst ho
            have dG := hdep ⟨2, .guard⟩ (by simp) rfl _ rfl 21 rfl
            change ρ (.tmp 21) = _ at dG
            rw [if_pos (by rw [wantR_some rfl rfl rfl dG]; decide)]
            clear dG
            generalize hR : (fun (u : Value) (w' : World) => Below w9.heap.size w9 w' ∧ _) = R
            clear hout hcon hdep
            go_simp
            subst hR
            exact ⟨hCx, fun s u h => h, fun d hd => (by obtain rfl : 22 = d := Option.some.inj hd; exact rfl)⟩
          | 4, ho =>
            simp only [List.getElem?_toArray, List.getElem?_cons_zero, List.getElem?_cons_succ, Option.some.injEq] at ho
            subst ho
            have dG := hdep ⟨2, .guard⟩ (by simp) rfl _ rfl 21 rfl
            change ρ (.tmp 21) = _ at dG
            rw [if_pos (by rw [wantR_some rfl rfl rfl dG]; decide)]
            clear dG
            generalize hR : (fun (u : Value) (w' : World) => Below w9.heap.size w9 w' ∧ _) = R
            clear hout hcon hdep
            go_simp
            subst hR
            exact ⟨hCx, fun s u h => h, fun d hd => (by obtain rfl : 23 = d := Option.some.inj hd; exact rfl)⟩
          | 5, ho =>
            simp only [List.getElem?_toArray, List.getElem?_cons_zero, List.getElem?_cons_succ, Option.some.injEq] at ho
            subst ho
            have dG := hdep ⟨2, .guard⟩ (by simp) rfl _ rfl 21 rfl
            change ρ (.tmp 21) = _ at dG
            rw [if_pos (by rw [wantR_some rfl rfl rfl dG]; decide)]
            clear dG
            have d23 := hdep ⟨4, .data⟩ (by simp) rfl _ rfl 23 rfl
            change ρ (.tmp 23) = _ at d23
            generalize hR : (fun (u : Value) (w' : World) => Below w9.heap.size w9 w' ∧ _) = R
            clear hout hcon hdep
            go_simp
            rw [stepOk_enter]
            refine (trim_any c A cap wx (HR9.out.below hCx) (by have := HL.out; omega) HC.out.op).mono ?_
            rintro e w2 ⟨TB, tc, rfl, hi2, hf2, hb2⟩
            subst hR
            exact ⟨_, rfl, hCx.trans (hb2.mono hCx.size), goodBy_stay hb2, fun d hd => (by obtain rfl : 24 = d := Option.some.inj hd; exact ⟨TB, tc, rfl, hi2⟩)⟩
          | 6, ho =>
            simp only [List.getElem?_toArray, List.getElem?_cons_zero, List.getElem?_cons_succ, Option.some.injEq] at ho
            subst ho
            have dG := hdep ⟨2, .guard⟩ (by simp) rfl _ rfl 21 rfl
            change ρ (.tmp 21) = _ at dG
            rw [if_pos (by rw [wantR_some rfl rfl rfl dG]; decide)]
            clear dG
            have d22 := hdep ⟨3, .data⟩ (by simp) rfl _ rfl 22 rfl
            change ρ (.tmp 22) = _ at d22
            have d24 := hdep ⟨5, .data⟩ (by simp) rfl _ rfl 24 rfl
            change (TrimGood c) (ρ (.tmp 24)) wx at d24
            generalize hR : (fun (u : Value) (w' : World) => Below w9.heap.size w9 w' ∧ _) = R
            clear hout hcon hdep
            go_simp
            obtain ⟨TB, tc, ht, hi⟩ := d24
            go_simp
            rw [stepOk_enter]
            refine (HSM.out wx TB tc (HR9.out.below hCx) hi).mono ?_
            rintro e w2 ⟨rfl, hb2⟩
            subst hR
            exact ⟨_, rfl, hCx.trans (hb2.mono hCx.size), goodBy_stay hb2, fun d hd => (by obtain rfl : 25 = d := Option.some.inj hd; exact rfl)⟩
          | 7, ho =>
            simp only [List.getElem?_toArray, List.getElem?_cons_zero, List.getElem?_cons_succ, Option.some.injEq] at ho
            subst ho
            have dG := hdep ⟨2, .guard⟩ (by simp) rfl _ rfl 21 rfl
            change ρ (.tmp 21) = _ at dG
            rw [if_pos (by rw [wantR_some rfl rfl rfl dG]; decide)]
            clear dG
            have d25 := hdep ⟨6, .data⟩ (by simp) rfl _ rfl 25 rfl
            change ρ (.tmp 25) = _ at d25
            generalize hR : (fun (u : Value) (w' : World) => Below w9.heap.size w9 w' ∧ _) = R
            clear hout hcon hdep
            go_simp
            subst hR
            exact ⟨hCx, fun s u h => h, fun d hd => (by obtain rfl : 26 = d := Option.some.inj hd; exact rfl)⟩
          | 8, ho =>
            simp only [List.getElem?_toArray, List.getElem?_cons_zero, List.getElem?_cons_succ, Option.some.injEq] at ho
            subst ho
            rw [if_pos (wantR_none rfl)]
            have d21 := hdep ⟨2, .data⟩ (by simp) rfl _ rfl 21 rfl
            change ρ (.tmp 21) = _ at d21
            have d26 := hdep ⟨7, .data⟩ (by simp) rfl _ rfl 26 rfl
            change ρ (.tmp 26) = _ at d26
            generalize hR : (fun (u : Value) (w' : World) => Below w9.heap.size w9 w' ∧ _) = R
            clear hout hcon hdep
            go_simp
            subst hR
            exact ⟨hCx, fun s u h => h, fun d hd => (by obtain rfl : 27 = d := Option.some.inj hd; exact rfl)⟩
          | 9, ho =>
            simp only [List.getElem?_toArray, List.getElem?_cons_zero, List.getElem?_cons_succ, Option.some.injEq] at ho
            subst ho
            rw [if_pos (wantR_none rfl)]
            have d27 := hdep ⟨8, .data⟩ (by simp) rfl _ rfl 27 rfl
            change ρ (.tmp 27) = _ at d27
            generalize hR : (fun (u : Value) (w' : World) => Below w9.heap.size w9 w' ∧ _) = R
            clear hout hcon hdep
            go_simp
            subst hR
            exact ⟨hCx, fun s u h => h, fun d hd => (by obtain rfl : 28 = d := Option.some.inj hd; exact rfl)⟩
          | 10, ho =>
            simp only [List.getElem?_toArray, List.getElem?_cons_zero, List.getElem?_cons_succ, Option.some.injEq] at ho
            subst ho
            have dG := hdep ⟨9, .guard⟩ (by simp) rfl _ rfl 28 rfl
            change ρ (.tmp 28) = _ at dG
            rw [if_pos (by rw [wantR_some rfl rfl rfl dG]; decide)]
            clear dG
            generalize hR : (fun (u : Value) (w' : World) => Below w9.heap.size w9 w' ∧ _) = R
            clear hout hcon hdep
            go_simp
            subst hR
            exact ⟨hCx, fun s u h => h, fun d hd => (by obtain rfl : 29 = d := Option.some.inj hd; exact rfl)⟩
          | 11, ho =>
            simp only [List.getElem?_toArray, List.getElem?_cons_zero, List.getElem?_cons_succ, Option.some.injEq] at ho
            subst ho
            have dG := hdep ⟨9, .guard⟩ (by simp) rfl _ rfl 28 rfl
            change ρ (.tmp 28) = _ at dG
            rw [if_pos (by rw [wantR_some rfl rfl rfl dG]; decide)]
            clear dG
            have d29 := hdep ⟨10, .data⟩ (by simp) rfl _ rfl 29 rfl
            change ρ (.tmp 29) = _ at d29
            generalize hR : (fun (u : Value) (w' : World) => Below w9.heap.size w9 w' ∧ _) = R
            clear hout hcon hdep
            go_simp
            subst hR
            exact ⟨hCx, fun s u h => h, fun d hd => (by obtain rfl : 30 = d := Option.some.inj hd; exact rfl)⟩
          | 12, ho =>
            simp only [List.getElem?_toArray, List.getElem?_cons_zero, List.getElem?_cons_succ, Option.some.injEq] at ho
            subst ho
            have dG := hdep ⟨9, .guard⟩ (by simp) rfl _ rfl 28 rfl
            change ρ (.tmp 28) = _ at dG
            rw [if_pos (by rw [wantR_some rfl rfl rfl dG]; decide)]
            clear dG
            have d30 := hdep ⟨11, .data⟩ (by simp) rfl _ rfl 30 rfl
            change ρ (.tmp 30) = _ at d30
            generalize hR : (fun (u : Value) (w' : World) => Below w9.heap.size w9 w' ∧ _) = R
            clear hout hcon hdep
            go_simp
            subst hR
            exact ⟨hCx, fun s u h => h, fun d hd => (by obtain rfl : 31 = d := Option.some.inj hd; exact rfl)⟩
          | 13, ho =>
            simp only [List.getElem?_toArray, List.getElem?_cons_zero, List.getElem?_cons_succ, Option.some.injEq] at ho
            subst ho
            rw [if_pos (wantR_none rfl)]
            have d28 := hdep ⟨9, .data⟩ (by simp) rfl _ rfl 28 rfl
            change ρ (.tmp 28) = _ at d28
            have d31 := hdep ⟨12, .data⟩ (by simp) rfl _ rfl 31 rfl
            change ρ (.tmp 31) = _ at d31
            generalize hR : (fun (u : Value) (w' : World) => Below w9.heap.size w9 w' ∧ _) = R
            clear hout hcon hdep
            go_simp
            subst hR
            exact ⟨hCx, fun s u h => h, fun d hd => (by obtain rfl : 32 = d := Option.some.inj hd; exact rfl)⟩
          | 14, ho =>
            simp only [List.getElem?_toArray, List.getElem?_cons_zero, List.getElem?_cons_succ, Option.some.injEq] at ho
            subst ho
            rw [if_pos (wantR_none rfl)]
            have d32 := hdep ⟨13, .data⟩ (by simp) rfl _ rfl 32 rfl
            change ρ (.tmp 32) = _ at d32
            generalize hR : (fun (u : Value) (w' : World) => Below w9.heap.size w9 w' ∧ _) = R
            clear hout hcon hdep
            go_simp
            subst hR
            exact ⟨hCx, fun s u h => h, fun d hd => (by obtain rfl : 33 = d := Option.some.inj hd; exact rfl)⟩
          | 15, ho =>
            simp only [List.getElem?_toArray, List.getElem?_cons_zero, List.getElem?_cons_succ, Option.some.injEq] at ho
            subst ho
            have dG := hdep ⟨14, .guard⟩ (by simp) rfl _ rfl 33 rfl
            change ρ (.tmp 33) = _ at dG
            rw [if_neg (by rw [wantR_some rfl rfl rfl dG]; decide)]
            exact fun d hd => (by obtain rfl : 34 = d := Option.some.inj hd; exact rfl)
          | 16, ho =>
            simp only [List.getElem?_toArray, List.getElem?_cons_zero, List.getElem?_cons_succ, Option.some.injEq] at ho
            subst ho
            have dG := hdep ⟨14, .guard⟩ (by simp) rfl _ rfl 33 rfl
            change ρ (.tmp 33) = _ at dG
            rw [if_neg (by rw [wantR_some rfl rfl rfl dG]; decide)]
            exact fun d hd => (by obtain rfl : 35 = d := Option.some.inj hd; exact rfl)
          | 17, ho =>
            simp only [List.getElem?_toArray, List.getElem?_cons_zero, List.getElem?_cons_succ, Option.some.injEq] at ho
            subst ho
            have dG := hdep ⟨14, .guard⟩ (by simp) rfl _ rfl 33 rfl
            change ρ (.tmp 33) = _ at dG
            rw [if_neg (by rw [wantR_some rfl rfl rfl dG]; decide)]
            exact fun d hd => (by obtain rfl : 36 = d := Option.some.inj hd; exact rfl)
          | 18, ho =>
            simp only [List.getElem?_toArray, List.getElem?_cons_zero, List.getElem?_cons_succ, Option.some.injEq] at ho
            subst ho
            have dG := hdep ⟨14, .guard⟩ (by simp) rfl _ rfl 33 rfl
            change ρ (.tmp 33) = _ at dG
            rw [if_neg (by rw [wantR_some rfl rfl rfl dG]; decide)]
            exact fun d hd => (by obtain rfl : 37 = d := Option.some.inj hd; exact rfl)
          | 19, ho =>
            simp only [List.getElem?_toArray, List.getElem?_cons_zero, List.getElem?_cons_succ, Option.some.injEq] at ho
            subst ho
            have dG := hdep ⟨14, .guard⟩ (by simp) rfl _ rfl 33 rfl
            change ρ (.tmp 33) = _ at dG
            rw [if_neg (by rw [wantR_some rfl rfl rfl dG]; decide)]
            exact fun d hd => (by obtain rfl : 38 = d := Option.some.inj hd; exact rfl)
          | 20, ho =>
            simp only [List.getElem?_toArray, List.getElem?_cons_zero, List.getElem?_cons_succ, Option.some.injEq] at ho
            subst ho
            have dG := hdep ⟨19, .guard⟩ (by simp) rfl _ rfl 38 rfl
            change ρ (.tmp 38) = _ at dG
            rw [if_neg (by rw [wantR_undef rfl rfl rfl dG]; decide)]
            exact fun d hd => (by obtain rfl : 39 = d := Option.some.inj hd; exact rfl)
          | 21, ho =>
            simp only [List.getElem?_toArray, List.getElem?_cons_zero, List.getElem?_cons_succ, Option.some.injEq] at ho
            subst ho
            have dG := hdep ⟨19, .guard⟩ (by simp) rfl _ rfl 38 rfl
            change ρ (.tmp 38) = _ at dG
            rw [if_neg (by rw [wantR_undef rfl rfl rfl dG]; decide)]
            exact fun d hd => (by obtain rfl : 40 = d := Option.some.inj hd; exact rfl)
          | 22, ho =>
            simp only [List.getElem?_toArray, List.getElem?_cons_zero, List.getElem?_cons_succ, Option.some.injEq] at ho
            subst ho
            have dG := hdep ⟨19, .guard⟩ (by simp) rfl _ rfl 38 rfl
            change ρ (.tmp 38) = _ at dG
            rw [if_neg (by rw [wantR_undef rfl rfl rfl dG]; decide)]
            exact fun d hd => (by obtain rfl : 41 = d := Option.some.inj hd; exact rfl)
          | 23, ho =>
            simp only [List.getElem?_toArray, List.getElem?_cons_zero, List.getElem?_cons_succ, Option.some.injEq] at ho
            subst ho
            have dG := hdep ⟨14, .guard⟩ (by simp) rfl _ rfl 33 rfl
            change ρ (.tmp 33) = _ at dG
            rw [if_neg (by rw [wantR_some rfl rfl rfl dG]; decide)]
            exact fun d hd => (by obtain rfl : 42 = d := Option.some.inj hd; exact rfl)
          | 24, ho =>
            simp only [List.getElem?_toArray, List.getElem?_cons_zero, List.getElem?_cons_succ, Option.some.injEq] at ho
            subst ho
            rw [if_pos (wantR_none rfl)]
            have d33 := hdep ⟨14, .data⟩ (by simp) rfl _ rfl 33 rfl
            change ρ (.tmp 33) = _ at d33
            have d42 := hdep ⟨23, .data⟩ (by simp) rfl _ rfl 42 rfl
            change ρ (.tmp 42) = _ at d42
            generalize hR : (fun (u : Value) (w' : World) => Below w9.heap.size w9 w' ∧ _) = R
            clear hout hcon hdep
            go_simp
            subst hR
            exact ⟨hCx, fun s u h => h, fun d hd => (by obtain rfl : 43 = d := Option.some.inj hd; exact rfl)⟩
          | n + 25, ho => exact absurd ho (by simp)
        · intro uz wA hCA hg
          have qA : uz 43 = .bool true := hg 24 _ rfl 43 rfl
          generalize hds : dstsOf _ = ds
          obtain rfl : ds = [19, 20, 21, 22, 23, 24, 25, 26, 27, 28, 29, 30, 31, 32, 33, 34, 35, 36, 37, 38, 39, 40, 41, 42, 43] := hds.symm.trans rfl
          simp only [List.foldl_cons, List.foldl_nil, List.setIfInBounds_toArray, List.set_cons_zero, List.set_cons_succ]
          rw [qA]
          clear hg qA
          have HBA := Lib.hid (HB9.out.trans (hCA.mono HB9.out.size))
          have HNO := Lib.hid (HNO1.out)
          clear hCA
          go_wp2_with fail
          go_ret2
          exact textPost_no HNO.out HBA.out
      case pos =>
      have hd2 : decide (2 < c.op) = false := by simp; omega
      have HO := Lib.hid ho
      clear ho
      obtain ⟨li, hli⟩ : ∃ x, listedB c = x := ⟨_, rfl⟩
      have HLI := Lib.hid (fun wx => hli ▸ listed_any c A cap wx)
      have HLB := Lib.hid hli
      clear hli
      by_cases h8 : l0 = 8
      case pos =>
        subst h8
        cases li
        case false =>
          refine wp_region_relg (fun w' => Below w9.heap.size w9 w') (goodBy [(19, .is (.bool true)), (20, .is (.bool false)), (21, .is (.bool false)), (22, .is (.agg (clCells c A cap))), (23, .is (.agg (clCells c A cap))), (24, .such (TrimGood c) (TrimGood.stay c)), (25, .is (.bool true)), (26, .is (.bool false)), (27, .is (.bool false)), (28, .is (.bool false)), (29, .is (.pointer (some ⟨w.heap.size, 7, none⟩))), (30, .is (.int .u8 c.op)), (31, .is (.bool false)), (32, .is (.bool false)), (33, .is (.bool false)), (34, .is (.slice (some ⟨b, oo, none⟩) ul.length ul.length)), (35, .is (.pointer (some ⟨b, oo, none⟩))), (36, .is (.int .i64 8)), (37, .is (.bool true)), (38, .is (.bool true)), (39, .is (.agg (clCells c A cap))), (40, .is (.bool false)), (41, .is (.bool true)), (42, .is (.bool true)), (43, .is (.bool true))]) (by first | assumption | kernel_rfl) (by first | rfl | kernel_rfl) (Below.refl _ _).drew ?_ ?_
          · intro i o ho ρ wx hCx hout hcon hdep
            have x1 : ρ (.tmp 1) = .pointer (some ⟨w.heap.size, 0, none⟩) := hout 1 (by decide)
            have x5 : ρ (.tmp 5) = .bool true := hout 5 (by decide)
            have x4 : ρ (.tmp 4) = .slice (some ⟨b, oo, none⟩) ul.length ul.length := hout 4 (by decide)
            have y0 := cell_later hCx HX9.out.at.g0
            have y1 := cell_later hCx HX9.out.at.g1
            have y2 := cell_later hCx HX9.out.at.g2
            have y3 := cell_later hCx HX9.out.at.g3
            have y4 := cell_later hCx HX9.out.at.g4
            have y5 := cell_later hCx HX9.out.at.g5
            have y6 := cell_later hCx HX9.out.at.g6
            have y7 := cell_later hCx HX9.out.at.g7
            have y8 := cell_later hCx HX9.out.at.g8
            have y9 := cell_later hCx HX9.out.at.g9
            have yA := cell_later hCx HX9.out.at.gA
            have yl := cell_later hCx HL0.out
            have xc : ∀ c : Value, ρ (.const c) = c := fun c => hcon (.const c) (fun t h => by cases h)
            skip
            have xf : ∀ f : FuncId, ρ (.func f) = .func (.func f) #[] #[] := fun f => hcon (.func f) (fun t h => by cases h)
            match i, ho with
            | 0, ho =>
              simp only [List.getElem?_toArray, List.getElem?_cons_zero, List.getElem?_cons_succ, Option.some.injEq] at ho
              subst ho
              rw [if_pos (wantR_none rfl)]
              generalize hR : (fun (u : Value) (w' : World) => Below w9.heap.size w9 w' ∧ _) = R
              clear hout hcon hdep
              go_simp
              subst hR
              exact ⟨hCx, fun s u h => h, fun d hd => (by obtain rfl : 19 = d := Option.some.inj hd; exact rfl)⟩
            | 1, ho =>
              simp only [List.getElem?_toArray, List.getElem?_cons_zero, List.getElem?_cons_succ, Option.some.injEq] at ho
              subst ho
              rw [if_pos (wantR_none rfl)]
              have d19 := hdep ⟨0, .data⟩ (by simp) rfl _ rfl 19 rfl
              change ρ (.tmp 19) = _ at d19
              generalize hR : (fun (u : Value) (w' : World) => Below w9.heap.size w9 w' ∧ _) = R
              clear hout hcon hdep
              go_simp
              subst hR
              exact ⟨hCx, fun s u h => h, fun d hd => (by obtain rfl : 20 = d := Option.some.inj hd; exact rfl)⟩
            | 2, ho =>
              simp only [List.getElem?_toArray, List.getElem?_cons_zero, List.getElem?_cons_succ, Option.some.injEq] at ho
              subst ho
              rw [if_pos (wantR_none rfl)]
              have d20 := hdep ⟨1, .data⟩ (by simp) rfl _ rfl 20 rfl
              change ρ (.tmp 20) = _ at d20
              generalize hR : (fun (u : Value) (w' : World) => Below w9.heap.size w9 w' ∧ _) = R
              clear hout hcon hdep
              go_simp
              subst hR
              exact ⟨hCx, fun s u h => h, fun d hd => (by obtain rfl : 21 = d := Option.some.inj hd; exact rfl)⟩
            | 3, ho =>
              simp only [List.getElem?_toArray, List.getElem?_cons_zero, List.getElem?_cons_succ, Option.some.injEq] at ho
              subst ho
              have dG := hdep ⟨2, .guard⟩ (by simp) rfl _ rfl 21 rfl
              change ρ (.tmp 21) = _ at dG
              rw [if_pos (by rw [wantR_some rfl rfl rfl dG]; decide)]
              clear dG
              generalize hR : (fun (u : Value) (w' : World) => Below w9.heap.size w9 w' ∧ _) = R
              clear hout hcon hdep
              go_simp
              subst hR
              exact ⟨hCx, fun s u h => h, fun d hd => (by obtain rfl : 22 = d := Option.some.inj hd; exact rfl)⟩
            | 4, ho =>
              simp only [List.getElem?_toArray, List.getElem?_cons_zero, List.getElem?_cons_succ, Option.some.injEq] at ho
              subst ho
              have dG := hdep ⟨2, .guard⟩ (by simp) rfl _ rfl 21 rfl
              change ρ (.tmp 21) = _ at dG
              rw [if_pos (by rw [wantR_some rfl rfl rfl dG]; decide)]
              clear dG
              generalize hR : (fun (u : Value) (w' : World) => Below w9.heap.size w9 w' ∧ _) = R
              clear hout hcon hdep
              go_simp
              subst hR
              exact ⟨hCx, fun s u h => h, fun d hd => (by obtain rfl : 23 = d := Option.some.inj hd; exact rfl)⟩
            | 5, ho =>
              simp only [List.getElem?_toArray, List.getElem?_cons_zero, List.getElem?_cons_succ, Option.some.injEq] at ho
              subst ho
              have dG := hdep ⟨2, .guard⟩ (by simp) rfl _ rfl 21 rfl
              change ρ (.tmp 21) = _ at dG
              rw [if_pos (by rw [wantR_some rfl rfl rfl dG]; decide)]
              clear dG
              have d23 := hdep ⟨4, .data⟩ (by simp) rfl _ rfl 23 rfl
              change ρ (.tmp 23) = _ at d23
              generalize hR : (fun (u : Value) (w' : World) => Below w9.heap.size w9 w' ∧ _) = R
              clear hout hcon hdep
              go_simp
              rw [stepOk_enter]
              refine (trim_any c A cap wx (HR9.out.below hCx) (by have := HL.out; omega) HC.out.op).mono ?_
              rintro e w2 ⟨TB, tc, rfl, hi2, hf2, hb2⟩
              subst hR
              exact ⟨_, rfl, hCx.trans (hb2.mono hCx.size), goodBy_stay hb2, fun d hd => (by obtain rfl : 24 = d := Option.some.inj hd; exact ⟨TB, tc, rfl, hi2⟩)⟩
            | 6, ho =>
              simp only [List.getElem?_toArray, List.getElem?_cons_zero, List.getElem?_cons_succ, Option.some.injEq] at ho
              subst ho
              have dG := hdep ⟨2, .guard⟩ (by simp) rfl _ rfl 21 rfl
              change ρ (.tmp 21) = _ at dG
              rw [if_pos (by rw [wantR_some rfl rfl rfl dG]; decide)]
              clear dG
              have d22 := hdep ⟨3, .data⟩ (by simp) rfl _ rfl 22 rfl
              change ρ (.tmp 22) = _ at d22
              have d24 := hdep ⟨5, .data⟩ (by simp) rfl _ rfl 24 rfl
              change (TrimGood c) (ρ (.tmp 24)) wx at d24
              generalize hR : (fun (u : Value) (w' : World) => Below w9.heap.size w9 w' ∧ _) = R
              clear hout hcon hdep
              go_simp
              obtain ⟨TB, tc, ht, hi⟩ := d24
              go_simp
              rw [stepOk_enter]
              refine (HSM.out wx TB tc (HR9.out.below hCx) hi).mono ?_
              rintro e w2 ⟨rfl, hb2⟩
              subst hR
              exact ⟨_, rfl, hCx.trans (hb2.mono hCx.size), goodBy_stay hb2, fun d hd => (by obtain rfl : 25 = d := Option.some.inj hd; exact rfl)⟩
            | 7, ho =>
              simp only [List.getElem?_toArray, List.getElem?_cons_zero, List.getElem?_cons_succ, Option.some.injEq] at ho
              subst ho
              have dG := hdep ⟨2, .guard⟩ (by simp) rfl _ rfl 21 rfl
              change ρ (.tmp 21) = _ at dG
              rw [if_pos (by rw [wantR_some rfl rfl rfl dG]; decide)]
              clear dG
              have d25 := hdep ⟨6, .data⟩ (by simp) rfl _ rfl 25 rfl
              change ρ (.tmp 25) = _ at d25
              generalize hR : (fun (u : Value) (w' : World) => Below w9.heap.size w9 w' ∧ _) = R
              clear hout hcon hdep
              go_simp
              subst hR
              exact ⟨hCx, fun s u h => h, fun d hd => (by obtain rfl : 26 = d := Option.some.inj hd; exact rfl)⟩
            | 8, ho =>
              simp only [List.getElem?_toArray, List.getElem?_cons_zero, List.getElem?_cons_succ, Option.some.injEq] at ho
              subst ho
              rw [if_pos (wantR_none rfl)]
              have d21 := hdep ⟨2, .data⟩ (by simp) rfl _ rfl 21 rfl
              change ρ (.tmp 21) = _ at d21
              have d26 := hdep ⟨7, .data⟩ (by simp) rfl _ rfl 26 rfl
              change ρ (.tmp 26) = _ at d26
              generalize hR : (fun (u : Value) (w' : World) => Below w9.heap.size w9 w' ∧ _) = R
              clear hout hcon hdep
              go_simp
              subst hR
              exact ⟨hCx, fun s u h => h, fun d hd => (by obtain rfl : 27 = d := Option.some.inj hd; exact rfl)⟩
            | 9, ho =>
              simp only [List.getElem?_toArray, List.getElem?_cons_zero, List.getElem?_cons_succ, Option.some.injEq] at ho
              subst ho
              rw [if_pos (wantR_none rfl)]
              have d27 := hdep ⟨8, .data⟩ (by simp) rfl _ rfl 27 rfl
              change ρ (.tmp 27) = _ at d27
              generalize hR : (fun (u : Value) (w' : World) => Below w9.heap.size w9 w' ∧ _) = R
              clear hout hcon hdep
              go_simp
              subst hR
              exact ⟨hCx, fun s u h => h, fun d hd => (by obtain rfl : 28 = d := Option.some.inj hd; exact rfl)⟩
            | 10, ho =>
              simp only [List.getElem?_toArray, List.getElem?_cons_zero, List.getElem?_cons_succ, Option.some.injEq] at ho
              subst ho
              have dG := hdep ⟨9, .guard⟩ (by simp) rfl _ rfl 28 rfl
              change ρ (.tmp 28) = _ at dG
              rw [if_pos (by rw [wantR_some rfl rfl rfl dG]; decide)]
              clear dG
              generalize hR : (fun (u : Value) (w' : World) => Below w9.heap.size w9 w' ∧ _) = R
              clear hout hcon hdep
              go_simp
              subst hR
              exact ⟨hCx, fun s u h => h, fun d hd => (by obtain rfl : 29 = d := Option.some.inj hd; exact rfl)⟩
            | 11, ho =>
              simp only [List.getElem?_toArray, List.getElem?_cons_zero, List.getElem?_cons_succ, Option.some.injEq] at ho
              subst ho
              have dG := hdep ⟨9, .guard⟩ (by simp) rfl _ rfl 28 rfl
              change ρ (.tmp 28) = _ at dG
              rw [if_pos (by rw [wantR_some rfl rfl rfl dG]; decide)]
              clear dG
              have d29 := hdep ⟨10, .data⟩ (by simp) rfl _ rfl 29 rfl
              change ρ (.tmp 29) = _ at d29
              generalize hR : (fun (u : Value) (w' : World) => Below w9.heap.size w9 w' ∧ _) = R
              clear hout hcon hdep
              go_simp
              subst hR
              exact ⟨hCx, fun s u h => h, fun d hd => (by obtain rfl : 30 = d := Option.some.inj hd; exact rfl)⟩
            | 12, ho =>
              simp only [List.getElem?_toArray, List.getElem?_cons_zero, List.getElem?_cons_succ, Option.some.injEq] at ho
              subst ho
              have dG := hdep ⟨9, .guard⟩ (by simp) rfl _ rfl 28 rfl
              change ρ (.tmp 28) = _ at dG
              rw [if_pos (by rw [wantR_some rfl rfl rfl dG]; decide)]
              clear dG
              have d30 := hdep ⟨11, .data⟩ (by simp) rfl _ rfl 30 rfl
              change ρ (.tmp 30) = _ at d30
              generalize hR : (fun (u : Value) (w' : World) => Below w9.heap.size w9 w' ∧ _) = R
              clear hout hcon hdep
              go_simp
              subst hR
              exact ⟨hCx, fun s u h => h, fun d hd => (by obtain rfl : 31 = d := Option.some.inj hd; exact rfl)⟩
            | 13, ho =>
              simp only [List.getElem?_toArray, List.getElem?_cons_zero, List.getElem?_cons_succ, Option.some.injEq] at ho
              subst ho
              rw [if_pos (wantR_none rfl)]
              have d28 := hdep ⟨9, .data⟩ (by simp) rfl _ rfl 28 rfl
              change ρ (.tmp 28) = _ at d28
              have d31 := hdep ⟨12, .data⟩ (by simp) rfl _ rfl 31 rfl
              change ρ (.tmp 31) = _ at d31
              generalize hR : (fun (u : Value) (w' : World) => Below w9.heap.size w9 w' ∧ _) = R
              clear hout hcon hdep
              go_simp
              subst hR
              exact ⟨hCx, fun s u h => h, fun d hd => (by obtain rfl : 32 = d := Option.some.inj hd; exact rfl)⟩
            | 14, ho =>
              simp only [List.getElem?_toArray, List.getElem?_cons_zero, List.getElem?_cons_succ, Option.some.injEq] at ho
              subst ho
              rw [if_pos (wantR_none rfl)]
              have d32 := hdep ⟨13, .data⟩ (by simp) rfl _ rfl 32 rfl
              change ρ (.tmp 32) = _ at d32
              generalize hR : (fun (u : Value) (w' : World) => Below w9.heap.size w9 w' ∧ _) = R
              clear hout hcon hdep
              go_simp
              subst hR
              exact ⟨hCx, fun s u h => h, fun d hd => (by obtain rfl : 33 = d := Option.some.inj hd; exact rfl)⟩
            | 15, ho =>
              simp only [List.getElem?_toArray, List.getElem?_cons_zero, List.getElem?_cons_succ, Option.some.injEq] at ho
              subst ho
              have dG := hdep ⟨14, .guard⟩ (by simp) rfl _ rfl 33 rfl
              change ρ (.tmp 33) = _ at dG
              rw [if_pos (by rw [wantR_some rfl rfl rfl dG]; decide)]
              clear dG
              generalize hR : (fun (u : Value) (w' : World) => Below w9.heap.size w9 w' ∧ _) = R
              clear hout hcon hdep
              go_simp
              subst hR
              exact ⟨hCx, fun s u h => h, fun d hd => (by obtain rfl : 34 = d := Option.some.inj hd; exact rfl)⟩
            | 16, ho =>
              simp only [List.getElem?_toArray, List.getElem?_cons_zero, List.getElem?_cons_succ, Option.some.injEq] at ho
              subst ho
              have dG := hdep ⟨14, .guard⟩ (by simp) rfl _ rfl 33 rfl
              change ρ (.tmp 33) = _ at dG
              rw [if_pos (by rw [wantR_some rfl rfl rfl dG]; decide)]
              clear dG
              have d34 := hdep ⟨15, .data⟩ (by simp) rfl _ rfl 34 rfl
              change ρ (.tmp 34) = _ at d34
              generalize hR : (fun (u : Value) (w' : World) => Below w9.heap.size w9 w' ∧ _) = R
              clear hout hcon hdep
              go_simp
              subst hR
              exact ⟨hCx, fun s u h => h, fun d hd => (by obtain rfl : 35 = d := Option.some.inj hd; exact rfl)⟩
            | 17, ho =>
              simp only [List.getElem?_toArray, List.getElem?_cons_zero, List.getElem?_cons_succ, Option.some.injEq] at ho
              subst ho
              have dG := hdep ⟨14, .guard⟩ (by simp) rfl _ rfl 33 rfl
              change ρ (.tmp 33) = _ at dG
              rw [if_pos (by rw [wantR_some rfl rfl rfl dG]; decide)]
              clear dG
              have d35 := hdep ⟨16, .data⟩ (by simp) rfl _ rfl 35 rfl
              change ρ (.tmp 35) = _ at d35
              generalize hR : (fun (u : Value) (w' : World) => Below w9.heap.size w9 w' ∧ _) = R
              clear hout hcon hdep
              go_simp
              subst hR
              exact ⟨hCx, fun s u h => h, fun d hd => (by obtain rfl : 36 = d := Option.some.inj hd; exact rfl)⟩
            | 18, ho =>
              simp only [List.getElem?_toArray, List.getElem?_cons_zero, List.getElem?_cons_succ, Option.some.injEq] at ho
              subst ho
              have dG := hdep ⟨14, .guard⟩ (by simp) rfl _ rfl 33 rfl
              change ρ (.tmp 33) = _ at dG
              rw [if_pos (by rw [wantR_some rfl rfl rfl dG]; decide)]
              clear dG
              have d36 := hdep ⟨17, .data⟩ (by simp) rfl _ rfl 36 rfl
              change ρ (.tmp 36) = _ at d36
              generalize hR : (fun (u : Value) (w' : World) => Below w9.heap.size w9 w' ∧ _) = R
              clear hout hcon hdep
              go_simp
              subst hR
              exact ⟨hCx, fun s u h => h, fun d hd => (by obtain rfl : 37 = d := Option.some.inj hd; exact rfl)⟩
            | 19, ho =>
              simp only [List.getElem?_toArray, List.getElem?_cons_zero, List.getElem?_cons_succ, Option.some.injEq] at ho
              subst ho
              have dG := hdep ⟨14, .guard⟩ (by simp) rfl _ rfl 33 rfl
              change ρ (.tmp 33) = _ at dG
              rw [if_pos (by rw [wantR_some rfl rfl rfl dG]; decide)]
              clear dG
              have d37 := hdep ⟨18, .data⟩ (by simp) rfl _ rfl 37 rfl
              change ρ (.tmp 37) = _ at d37
              generalize hR : (fun (u : Value) (w' : World) => Below w9.heap.size w9 w' ∧ _) = R
              clear hout hcon hdep
              go_simp
              subst hR
              exact ⟨hCx, fun s u h => h, fun d hd => (by obtain rfl : 38 = d := Option.some.inj hd; exact rfl)⟩
            | 20, ho =>
              simp only [List.getElem?_toArray, List.getElem?_cons_zero, List.getElem?_cons_succ, Option.some.injEq] at ho
              subst ho
              have dG := hdep ⟨19, .guard⟩ (by simp) rfl _ rfl 38 rfl
              change ρ (.tmp 38) = _ at dG
              rw [if_pos (by rw [wantR_some rfl rfl rfl dG]; decide)]
              clear dG
              generalize hR : (fun (u : Value) (w' : World) => Below w9.heap.size w9 w' ∧ _) = R
              clear hout hcon hdep
              go_simp
              subst hR
              exact ⟨hCx, fun s u h => h, fun d hd => (by obtain rfl : 39 = d := Option.some.inj hd; exact rfl)⟩
            | 21, ho =>
              simp only [List.getElem?_toArray, List.getElem?_cons_zero, List.getElem?_cons_succ, Option.some.injEq] at ho
              subst ho
              have dG := hdep ⟨19, .guard⟩ (by simp) rfl _ rfl 38 rfl
              change ρ (.tmp 38) = _ at dG
              rw [if_pos (by rw [wantR_some rfl rfl rfl dG]; decide)]
              clear dG
              have d39 := hdep ⟨20, .data⟩ (by simp) rfl _ rfl 39 rfl
              change ρ (.tmp 39) = _ at d39
              generalize hR : (fun (u : Value) (w' : World) => Below w9.heap.size w9 w' ∧ _) = R
              clear hout hcon hdep
              go_simp
              rw [stepOk_enter]
              refine (HLI.out wx).mono ?_
              rintro e w2 ⟨rfl, hb2⟩
              subst hR
              exact ⟨_, rfl, hCx.trans (hb2.mono hCx.size), goodBy_stay hb2, fun d hd => (by obtain rfl : 40 = d := Option.some.inj hd; exact rfl)⟩
            | 22, ho =>
              simp only [List.getElem?_toArray, List.getElem?_cons_zero, List.getElem?_cons_succ, Option.some.injEq] at ho
              subst ho
              have dG := hdep ⟨19, .guard⟩ (by simp) rfl _ rfl 38 rfl
              change ρ (.tmp 38) = _ at dG
              rw [if_pos (by rw [wantR_some rfl rfl rfl dG]; decide)]
              clear dG
              have d40 := hdep ⟨21, .data⟩ (by simp) rfl _ rfl 40 rfl
              change ρ (.tmp 40) = _ at d40
              generalize hR : (fun (u : Value) (w' : World) => Below w9.heap.size w9 w' ∧ _) = R
              clear hout hcon hdep
              go_simp
              subst hR
              exact ⟨hCx, fun s u h => h, fun d hd => (by obtain rfl : 41 = d := Option.some.inj hd; exact rfl)⟩
            | 23, ho =>
              simp only [List.getElem?_toArray, List.getElem?_cons_zero, List.getElem?_cons_succ, Option.some.injEq] at ho
              subst ho
              have dG := hdep ⟨14, .guard⟩ (by simp) rfl _ rfl 33 rfl
              change ρ (.tmp 33) = _ at dG
              rw [if_pos (by rw [wantR_some rfl rfl rfl dG]; decide)]
              clear dG
              have d38 := hdep ⟨19, .data⟩ (by simp) rfl _ rfl 38 rfl
              change ρ (.tmp 38) = _ at d38
              have d41 := hdep ⟨22, .data⟩ (by simp) rfl _ rfl 41 rfl
              change ρ (.tmp 41) = _ at d41
              generalize hR : (fun (u : Value) (w' : World) => Below w9.heap.size w9 w' ∧ _) = R
              clear hout hcon hdep
              go_simp
              subst hR
              exact ⟨hCx, fun s u h => h, fun d hd => (by obtain rfl : 42 = d := Option.some.inj hd; exact rfl)⟩
            | 24, ho =>
              simp only [List.getElem?_toArray, List.getElem?_cons_zero, List.getElem?_cons_succ, Option.some.injEq] at ho
              subst ho
              rw [if_pos (wantR_none rfl)]
              have d33 := hdep ⟨14, .data⟩ (by simp) rfl _ rfl 33 rfl
              change ρ (.tmp 33) = _ at d33
              have d42 := hdep ⟨23, .data⟩ (by simp) rfl _ rfl 42 rfl
              change ρ (.tmp 42) = _ at d42
              generalize hR : (fun (u : Value) (w' : World) => Below w9.heap.size w9 w' ∧ _) = R
              clear hout hcon hdep
              go_simp
              subst hR
              exact ⟨hCx, fun s u h => h, fun d hd => (by obtain rfl : 43 = d := Option.some.inj hd; exact rfl)⟩
            | n + 25, ho => exact absurd ho (by simp)
          · intro uz wA hCA hg
            have qA : uz 43 = .bool true := hg 24 _ rfl 43 rfl
            generalize hds : dstsOf _ = ds
            obtain rfl : ds = [19, 20, 21, 22, 23, 24, 25, 26, 27, 28, 29, 30, 31, 32, 33, 34, 35, 36, 37, 38, 39, 40, 41, 42, 43] := hds.symm.trans rfl
            simp only [List.foldl_cons, List.foldl_nil, List.setIfInBounds_toArray, List.set_cons_zero, List.set_cons_succ]
            rw [qA]
            clear hg qA
            have HBA := Lib.hid (HB9.out.trans (hCA.mono HB9.out.size))
            have HNO := Lib.hid (textB_list HLE.out HLB.out)
            clear hCA
            go_wp2_with fail
            go_ret2
            exact textPost_no HNO.out HBA.out
        case true =>
          have HYES := Lib.hid (textB_yes HK.out HM.out HO.out (.inr HLB.out))
          refine wp_region_relg (fun w' => Below w9.heap.size w9 w') (goodBy [(19, .is (.bool true)), (20, .is (.bool false)), (21, .is (.bool false)), (22, .is (.agg (clCells c A cap))), (23, .is (.agg (clCells c A cap))), (24, .such (TrimGood c) (TrimGood.stay c)), (25, .is (.bool true)), (26, .is (.bool false)), (27, .is (.bool false)), (28, .is (.bool false)), (29, .is (.pointer (some ⟨w.heap.size, 7, none⟩))), (30, .is (.int .u8 c.op)), (31, .is (.bool false)), (32, .is (.bool false)), (33, .is (.bool false)), (34, .is (.slice (some ⟨b, oo, none⟩) ul.length ul.length)), (35, .is (.pointer (some ⟨b, oo, none⟩))), (36, .is (.int .i64 8)), (37, .is (.bool true)), (38, .is (.bool true)), (39, .is (.agg (clCells c A cap))), (40, .is (.bool true)), (41, .is (.bool false)), (42, .is (.bool false)), (43, .is (.bool false))]) (by first | assumption | kernel_rfl) (by first | rfl | kernel_rfl) (Below.refl _ _).drew ?_ ?_
          · intro i o ho ρ wx hCx hout hcon hdep
            have x1 : ρ (.tmp 1) = .pointer (some ⟨w.heap.size, 0, none⟩) := hout 1 (by decide)
            have x5 : ρ (.tmp 5) = .bool true := hout 5 (by decide)
            have x4 : ρ (.tmp 4) = .slice (some ⟨b, oo, none⟩) ul.length ul.length := hout 4 (by decide)
            have y0 := cell_later hCx HX9.out.at.g0
            have y1 := cell_later hCx HX9.out.at.g1
            have y2 := cell_later hCx HX9.out.at.g2
            have y3 := cell_later hCx HX9.out.at.g3
            have y4 := cell_later hCx HX9.out.at.g4
            have y5 := cell_later hCx HX9.out.at.g5
            have y6 := cell_later hCx HX9.out.at.g6
            have y7 := cell_later hCx HX9.out.at.g7
            have y8 := cell_later hCx HX9.out.at.g8
            have y9 := cell_later hCx HX9.out.at.g9
            have yA := cell_later hCx HX9.out.at.gA
            have yl := cell_later hCx HL0.out
            have xc : ∀ c : Value, ρ (.const c) = c := fun c => hcon (.const c) (fun t h => by cases h)
            skip
            have xf : ∀ f : FuncId, ρ (.func f) = .func (.func f) #[] #[] := fun f => hcon (.func f) (fun t h => by cases h)
            match i, ho with
            | 0, ho =>
              simp only [List.getElem?_toArray, List.getElem?_cons_zero, List.getElem?_cons_succ, Option.some.injEq] at ho
              subst ho
              rw [if_pos (wantR_none rfl)]
              generalize hR : (fun (u : Value) (w' : World) => Below w9.heap.size w9 w' ∧ _) = R
              clear hout hcon hdep
              go_simp
              subst hR
              exact ⟨hCx, fun s u h => h, fun d hd => (by obtain rfl : 19 = d := Option.some.inj hd; exact rfl)⟩
            | 1, ho =>
              simp only [List.getElem?_toArray, List.getElem?_cons_zero, List.getElem?_cons_succ, Option.some.injEq] at ho
              subst ho
              rw [if_pos (wantR_none rfl)]
              have d19 := hdep ⟨0, .data⟩ (by simp) rfl _ rfl 19 rfl
              change ρ (.tmp 19) = _ at d19
              generalize hR : (fun (u : Value) (w' : World) => Below w9.heap.size w9 w' ∧ _) = R
              clear hout hcon hdep
              go_simp
              subst hR
              exact ⟨hCx, fun s u h => h, fun d hd => (by obtain rfl : 20 = d := Option.some.inj hd; exact rfl)⟩
            | 2, ho =>
              simp only [List.getElem?_toArray, List.getElem?_cons_zero, List.getElem?_cons_succ, Option.some.injEq] at ho
              subst ho
              rw [if_pos (wantR_none rfl)]
              have d20 := hdep ⟨1, .data⟩ (by simp) rfl _ rfl 20 rfl
              change ρ (.tmp 20) = _ at d20
              generalize hR : (fun (u : Value) (w' : World) => Below w9.heap.size w9 w' ∧ _) = R
              clear hout hcon hdep
              go_simp
              subst hR
              exact ⟨hCx, fun s u h => h, fun d hd => (by obtain rfl : 21 = d := Option.some.inj hd; exact rfl)⟩
            | 3, ho =>
              simp only [List.getElem?_toArray, List.getElem?_cons_zero, List.getElem?_cons_succ, Option.some.injEq] at ho
              subst ho
              have dG := hdep ⟨2, .guard⟩ (by simp) rfl _ rfl 21 rfl
              change ρ (.tmp 21) = _ at dG
              rw [if_pos (by rw [wantR_some rfl rfl rfl dG]; decide)]
              clear dG
              generalize hR : (fun (u : Value) (w' : World) => Below w9.heap.size w9 w' ∧ _) = R
              clear hout hcon hdep
              go_simp
              subst hR
              exact ⟨hCx, fun s u h => h, fun d hd => (by obtain rfl : 22 = d := Option.some.inj hd; exact rfl)⟩
            | 4, ho =>
              simp only [List.getElem?_toArray, List.getElem?_cons_zero, List.getElem?_cons_succ, Option.some.injEq] at ho
              subst ho
              have dG := hdep ⟨2, .guard⟩ (by simp) rfl _ rfl 21 rfl
              change ρ (.tmp 21) = _ at dG
              rw [if_pos (by rw [wantR_some rfl rfl rfl dG]; decide)]
              clear dG
              generalize hR : (fun (u : Value) (w' : World) => Below w9.heap.size w9 w' ∧ _) = R
              clear hout hcon hdep
              go_simp
              subst hR
              exact ⟨hCx, fun s u h => h, fun d hd => (by obtain rfl : 23 = d := Option.some.inj hd; exact rfl)⟩
            | 5, ho =>
              simp only [List.getElem?_toArray, List.getElem?_cons_zero, List.getElem?_cons_succ, Option.some.injEq] at ho
              subst ho
              have dG := hdep ⟨2, .guard⟩ (by simp) rfl _ rfl 21 rfl
              change ρ (.tmp 21) = _ at dG
              rw [if_pos (by rw [wantR_some rfl rfl rfl dG]; decide)]
              clear dG
              have d23 := hdep ⟨4, .data⟩ (by simp) rfl _ rfl 23 rfl
              change ρ (.tmp 23) = _ at d23
              generalize hR : (fun (u : Value) (w' : World) => Below w9.heap.size w9 w' ∧ _) = R
              clear hout hcon hdep
              go_simp
              rw [stepOk_enter]
              refine (trim_any c A cap wx (HR9.out.below hCx) (by have := HL.out; omega) HC.out.op).mono ?_
              rintro e w2 ⟨TB, tc, rfl, hi2, hf2, hb2⟩
              subst hR
              exact ⟨_, rfl, hCx.trans (hb2.mono hCx.size), goodBy_stay hb2, fun d hd => (by obtain rfl : 24 = d := Option.some.inj hd; exact ⟨TB, tc, rfl, hi2⟩)⟩
            | 6, ho =>
              simp only [List.getElem?_toArray, List.getElem?_cons_zero, List.getElem?_cons_succ, Option.some.injEq] at ho
              subst ho
              have dG := hdep ⟨2, .guard⟩ (by simp) rfl _ rfl 21 rfl
              change ρ (.tmp 21) = _ at dG
              rw [if_pos (by rw [wantR_some rfl rfl rfl dG]; decide)]
              clear dG
              have d22 := hdep ⟨3, .data⟩ (by simp) rfl _ rfl 22 rfl
              change ρ (.tmp 22) = _ at d22
              have d24 := hdep ⟨5, .data⟩ (by simp) rfl _ rfl 24 rfl
              change (TrimGood c) (ρ (.tmp 24)) wx at d24
              generalize hR : (fun (u : Value) (w' : World) => Below w9.heap.size w9 w' ∧ _) = R
              clear hout hcon hdep
              go_simp
              obtain ⟨TB, tc, ht, hi⟩ := d24
              go_simp
              rw [stepOk_enter]
              refine (HSM.out wx TB tc (HR9.out.below hCx) hi).mono ?_
              rintro e w2 ⟨rfl, hb2⟩
              subst hR
              exact ⟨_, rfl, hCx.trans (hb2.mono hCx.size), goodBy_stay hb2, fun d hd => (by obtain rfl : 25 = d := Option.some.inj hd; exact rfl)⟩
            | 7, ho =>
              simp only [List.getElem?_toArray, List.getElem?_cons_zero, List.getElem?_cons_succ, Option.some.injEq] at ho
              subst ho
              have dG := hdep ⟨2, .guard⟩ (by simp) rfl _ rfl 21 rfl
              change ρ (.tmp 21) = _ at dG
              rw [if_pos (by rw [wantR_some rfl rfl rfl dG]; decide)]
              clear dG
              have d25 := hdep ⟨6, .data⟩ (by simp) rfl _ rfl 25 rfl
              change ρ (.tmp 25) = _ at d25
              generalize hR : (fun (u : Value) (w' : World) => Below w9.heap.size w9 w' ∧ _) = R
              clear hout hcon hdep
              go_simp
              subst hR
              exact ⟨hCx, fun s u h => h, fun d hd => (by obtain rfl : 26 = d := Option.some.inj hd; exact rfl)⟩
            | 8, ho =>
              simp only [List.getElem?_toArray, List.getElem?_cons_zero, List.getElem?_cons_succ, Option.some.injEq] at ho
              subst ho
              rw [if_pos (wantR_none rfl)]
              have d21 := hdep ⟨2, .data⟩ (by simp) rfl _ rfl 21 rfl
              change ρ (.tmp 21) = _ at d21
              have d26 := hdep ⟨7, .data⟩ (by simp) rfl _ rfl 26 rfl
              change ρ (.tmp 26) = _ at d26
              generalize hR : (fun (u : Value) (w' : World) => Below w9.heap.size w9 w' ∧ _) = R
              clear hout hcon hdep
              go_simp
              subst hR
              exact ⟨hCx, fun s u h => h, fun d hd => (by obtain rfl : 27 = d := Option.some.inj hd; exact rfl)⟩
            | 9, ho =>
              simp only [List.getElem?_toArray, List.getElem?_cons_zero, List.getElem?_cons_succ, Option.some.injEq] at ho
              subst ho
              rw [if_pos (wantR_none rfl)]
              have d27 := hdep ⟨8, .data⟩ (by simp) rfl _ rfl 27 rfl
              change ρ (.tmp 27) = _ at d27
              generalize hR : (fun (u : Value) (w' : World) => Below w9.heap.size w9 w' ∧ _) = R
              clear hout hcon hdep
              go_simp
              subst hR
              exact ⟨hCx, fun s u h => h, fun d hd => (by obtain rfl : 28 = d := Option.some.inj hd; exact rfl)⟩
            | 10, ho =>
              simp only [List.getElem?_toArray, List.getElem?_cons_zero, List.getElem?_cons_succ, Option.some.injEq] at ho
              subst ho
              have dG := hdep ⟨9, .guard⟩ (by simp) rfl _ rfl 28 rfl
              change ρ (.tmp 28) = _ at dG
              rw [if_pos (by rw [wantR_some rfl rfl rfl dG]; decide)]
              clear dG
              generalize hR : (fun (u : Value) (w' : World) => Below w9.heap.size w9 w' ∧ _) = R
              clear hout hcon hdep
              go_simp
              subst hR
              exact ⟨hCx, fun s u h => h, fun d hd => (by obtain rfl : 29 = d := Option.some.inj hd; exact rfl)⟩
            | 11, ho =>
              simp only [List.getElem?_toArray, List.getElem?_cons_zero, List.getElem?_cons_succ, Option.some.injEq] at ho
              subst ho
              have dG := hdep ⟨9, .guard⟩ (by simp) rfl _ rfl 28 rfl
              change ρ (.tmp 28) = _ at dG
              rw [if_pos (by rw [wantR_some rfl rfl rfl dG]; decide)]
              clear dG
              have d29 := hdep ⟨10, .data⟩ (by simp) rfl _ rfl 29 rfl
              change ρ (.tmp 29) = _ at d29
              generalize hR : (fun (u : Value) (w' : World) => Below w9.heap.size w9 w' ∧ _) = R
              clear hout hcon hdep
              go_simp
              subst hR
              exact ⟨hCx, fun s u h => h, fun d hd => (by obtain rfl : 30 = d := Option.some.inj hd; exact rfl)⟩
            | 12, ho =>
              simp only [List.getElem?_toArray, List.getElem?_cons_zero, List.getElem?_cons_succ, Option.some.injEq] at ho
              subst ho
              have dG := hdep ⟨9, .guard⟩ (by simp) rfl _ rfl 28 rfl
              change ρ (.tmp 28) = _ at dG
              rw [if_pos (by rw [wantR_some rfl rfl rfl dG]; decide)]
              clear dG
              have d30 := hdep ⟨11, .data⟩ (by simp) rfl _ rfl 30 rfl
              change ρ (.tmp 30) = _ at d30
              generalize hR : (fun (u : Value) (w' : World) => Below w9.heap.size w9 w' ∧ _) = R
              clear hout hcon hdep
              go_simp
              subst hR
              exact ⟨hCx, fun s u h => h, fun d hd => (by obtain rfl : 31 = d := Option.some.inj hd; exact rfl)⟩
            | 13, ho =>
              simp only [List.getElem?_toArray, List.getElem?_cons_zero, List.getElem?_cons_succ, Option.some.injEq] at ho
              subst ho
              rw [if_pos (wantR_none rfl)]
              have d28 := hdep ⟨9, .data⟩ (by simp) rfl _ rfl 28 rfl
              change ρ (.tmp 28) = _ at d28
              have d31 := hdep ⟨12, .data⟩ (by simp) rfl _ rfl 31 rfl
              change ρ (.tmp 31) = _ at d31
              generalize hR : (fun (u : Value) (w' : World) => Below w9.heap.size w9 w' ∧ _) = R
              clear hout hcon hdep
              go_simp
              subst hR
              exact ⟨hCx, fun s u h => h, fun d hd => (by obtain rfl : 32 = d := Option.some.inj hd; exact rfl)⟩
            | 14, ho =>
              simp only [List.getElem?_toArray, List.getElem?_cons_zero, List.getElem?_cons_succ, Option.some.injEq] at ho
              subst ho
              rw [if_pos (wantR_none rfl)]
              have d32 := hdep ⟨13, .data⟩ (by simp) rfl _ rfl 32 rfl
              change ρ (.tmp 32) = _ at d32
              generalize hR : (fun (u : Value) (w' : World) => Below w9.heap.size w9 w' ∧ _) = R
              clear hout hcon hdep
              go_simp
              subst hR
              exact ⟨hCx, fun s u h => h, fun d hd => (by obtain rfl : 33 = d := Option.some.inj hd; exact rfl)⟩
            | 15, ho =>
              simp only [List.getElem?_toArray, List.getElem?_cons_zero, List.getElem?_cons_succ, Option.some.injEq] at ho
              subst ho
              have dG := hdep ⟨14, .guard⟩ (by simp) rfl _ rfl 33 rfl
              change ρ (.tmp 33) = _ at dG
              rw [if_pos (by rw [wantR_some rfl rfl rfl dG]; decide)]
              clear dG
              generalize hR : (fun (u : Value) (w' : World) => Below w9.heap.size w9 w' ∧ _) = R
              clear hout hcon hdep
              go_simp
              subst hR
              exact ⟨hCx, fun s u h => h, fun d hd => (by obtain rfl : 34 = d := Option.some.inj hd; exact rfl)⟩
            | 16, ho =>
              simp only [List.getElem?_toArray, List.getElem?_cons_zero, List.getElem?_cons_succ, Option.some.injEq] at ho
              subst ho
              have dG := hdep ⟨14, .guard⟩ (by simp) rfl _ rfl 33 rfl
              change ρ (.tmp 33) = _ at dG
              rw [if_pos (by rw [wantR_some rfl rfl rfl dG]; decide)]
              clear dG
              have d34 := hdep ⟨15, .data⟩ (by simp) rfl _ rfl 34 rfl
              change ρ (.tmp 34) = _ at d34
              generalize hR : (fun (u : Value) (w' : World) => Below w9.heap.size w9 w' ∧ _) = R
              clear hout hcon hdep
              go_simp
              subst hR
              exact ⟨hCx, fun s u h => h, fun d hd => (by obtain rfl : 35 = d := Option.some.inj hd; exact rfl)⟩
            | 17, ho =>
              simp only [List.getElem?_toArray, List.getElem?_cons_zero, List.getElem?_cons_succ, Option.some.injEq] at ho
              subst ho
              have dG := hdep ⟨14, .guard⟩ (by simp) rfl _ rfl 33 rfl
              change ρ (.tmp 33) = _ at dG
              rw [if_pos (by rw [wantR_some rfl rfl rfl dG]; decide)]
              clear dG
              have d35 := hdep ⟨16, .data⟩ (by simp) rfl _ rfl 35 rfl
              change ρ (.tmp 35) = _ at d35
              generalize hR : (fun (u : Value) (w' : World) => Below w9.heap.size w9 w' ∧ _) = R
              clear hout hcon hdep
              go_simp
              subst hR
              exact ⟨hCx, fun s u h => h, fun d hd => (by obtain rfl : 36 = d := Option.some.inj hd; exact rfl)⟩
            | 18, ho =>
              simp only [List.getElem?_toArray, List.getElem?_cons_zero, List.getElem?_cons_succ, Option.some.injEq] at ho
              subst ho
              have dG := hdep ⟨14, .guard⟩ (by simp) rfl _ rfl 33 rfl
              change ρ (.tmp 33) = _ at dG
              rw [if_pos (by rw [wantR_some rfl rfl rfl dG]; decide)]
              clear dG
              have d36 := hdep ⟨17, .data⟩ (by simp) rfl _ rfl 36 rfl
              change ρ (.tmp 36) = _ at d36
              generalize hR : (fun (u : Value) (w' : World) => Below w9.heap.size w9 w' ∧ _) = R
              clear hout hcon hdep
              go_simp
              subst hR
              exact ⟨hCx, fun s u h => h, fun d hd => (by obtain rfl : 37 = d := Option.some.inj hd; exact rfl)⟩
            | 19, ho =>
              simp only [List.getElem?_toArray, List.getElem?_cons_zero, List.getElem?_cons_succ, Option.some.injEq] at ho
              subst ho
              have dG := hdep ⟨14, .guard⟩ (by simp) rfl _ rfl 33 rfl
              change ρ (.tmp 33) = _ at dG
              rw [if_pos (by rw [wantR_some rfl rfl rfl dG]; decide)]
              clear dG
              have d37 := hdep ⟨18, .data⟩ (by simp) rfl _ rfl 37 rfl
              change ρ (.tmp 37) = _ at d37
              generalize hR : (fun (u : Value) (w' : World) => Below w9.heap.size w9 w' ∧ _) = R
              clear hout hcon hdep
              go_simp
              subst hR
              exact ⟨hCx, fun s u h => h, fun d hd => (by obtain rfl : 38 = d := Option.some.inj hd; exact rfl)⟩
            | 20, ho =>
              simp only [List.getElem?_toArray, List.getElem?_cons_zero, List.getElem?_cons_succ, Option.some.injEq] at ho
              subst ho
              have dG := hdep ⟨19, .guard⟩ (by simp) rfl _ rfl 38 rfl
              change ρ (.tmp 38) = _ at dG
              rw [if_pos (by rw [wantR_some rfl rfl rfl dG]; decide)]
              clear dG
              generalize hR : (fun (u : Value) (w' : World) => Below w9.heap.size w9 w' ∧ _) = R
              clear hout hcon hdep
              go_simp
              subst hR
              exact ⟨hCx, fun s u h => h, fun d hd => (by obtain rfl : 39 = d := Option.some.inj hd; exact rfl)⟩
            | 21, ho =>
              simp only [List.getElem?_toArray, List.getElem?_cons_zero, List.getElem?_cons_succ, Option.some.injEq] at ho
              subst ho
              have dG := hdep ⟨19, .guard⟩ (by simp) rfl _ rfl 38 rfl
              change ρ (.tmp 38) = _ at dG
              rw [if_pos (by rw [wantR_some rfl rfl rfl dG]; decide)]
              clear dG
              have d39 := hdep ⟨20, .data⟩ (by simp) rfl _ rfl 39 rfl
              change ρ (.tmp 39) = _ at d39
              generalize hR : (fun (u : Value) (w' : World) => Below w9.heap.size w9 w' ∧ _) = R
              clear hout hcon hdep
              go_simp
              rw [stepOk_enter]
              refine (HLI.out wx).mono ?_
              rintro e w2 ⟨rfl, hb2⟩
              subst hR
              exact ⟨_, rfl, hCx.trans (hb2.mono hCx.size), goodBy_stay hb2, fun d hd => (by obtain rfl : 40 = d := Option.some.inj hd; exact rfl)⟩
            | 22, ho =>
              simp only [List.getElem?_toArray, List.getElem?_cons_zero, List.getElem?_cons_succ, Option.some.injEq] at ho
              subst ho
              have dG := hdep ⟨19, .guard⟩ (by simp) rfl _ rfl 38 rfl
              change ρ (.tmp 38) = _ at dG
              rw [if_pos (by rw [wantR_some rfl rfl rfl dG]; decide)]
              clear dG
              have d40 := hdep ⟨21, .data⟩ (by simp) rfl _ rfl 40 rfl
              change ρ (.tmp 40) = _ at d40
              generalize hR : (fun (u : Value) (w' : World) => Below w9.heap.size w9 w' ∧ _) = R
              clear hout hcon hdep
              go_simp
              subst hR
              exact ⟨hCx, fun s u h => h, fun d hd => (by obtain rfl : 41 = d := Option.some.inj hd; exact rfl)⟩
            | 23, ho =>
              simp only [List.getElem?_toArray, List.getElem?_cons_zero, List.getElem?_cons_succ, Option.some.injEq] at ho
              subst ho
              have dG := hdep ⟨14, .guard⟩ (by simp) rfl _ rfl 33 rfl
              change ρ (.tmp 33) = _ at dG
              rw [if_pos (by rw [wantR_some rfl rfl rfl dG]; decide)]
              clear dG
              have d38 := hdep ⟨19, .data⟩ (by simp) rfl _ rfl 38 rfl
              change ρ (.tmp 38) = _ at d38
              have d41 := hdep ⟨22, .data⟩ (by simp) rfl _ rfl 41 rfl
              change ρ (.tmp 41) = _ at d41
              generalize hR : (fun (u : Value) (w' : World) => Below w9.heap.size w9 w' ∧ _) = R
              clear hout hcon hdep
              go_simp
              subst hR
              exact ⟨hCx, fun s u h => h, fun d hd => (by obtain rfl : 42 = d := Option.some.inj hd; exact rfl)⟩
            | 24, ho =>
              simp only [List.getElem?_toArray, List.getElem?_cons_zero, List.getElem?_cons_succ, Option.some.injEq] at ho
              subst ho
              rw [if_pos (wantR_none rfl)]
              have d33 := hdep ⟨14, .data⟩ (by simp) rfl _ rfl 33 rfl
              change ρ (.tmp 33) = _ at d33
              have d42 := hdep ⟨23, .data⟩ (by simp) rfl _ rfl 42 rfl
              change ρ (.tmp 42) = _ at d42
              generalize hR : (fun (u : Value) (w' : World) => Below w9.heap.size w9 w' ∧ _) = R
              clear hout hcon hdep
              go_simp
              subst hR
              exact ⟨hCx, fun s u h => h, fun d hd => (by obtain rfl : 43 = d := Option.some.inj hd; exact rfl)⟩
            | n + 25, ho => exact absurd ho (by simp)
          · intro uz wA hCA hg
            have qA : uz 43 = .bool false := hg 24 _ rfl 43 rfl
            generalize hds : dstsOf _ = ds
            obtain rfl : ds = [19, 20, 21, 22, 23, 24, 25, 26, 27, 28, 29, 30, 31, 32, 33, 34, 35, 36, 37, 38, 39, 40, 41, 42, 43] := hds.symm.trans rfl
            simp only [List.foldl_cons, List.foldl_nil, List.setIfInBounds_toArray, List.set_cons_zero, List.set_cons_succ]
            rw [qA]
            clear hg qA
            have HL := Lib.hid (reqs_few HC.out.op HYES.out)
            have HXA := Lib.hid (HX9.out.below hCA)
            have HRA := Lib.hid (HR9.out.below hCA)
            have HTA := Lib.hid (HT9.out.below hCA)
            have HPA := Lib.hid (HP9.out.below hCA)
            have HR3A := Lib.hid (HR3.out.below hCA)
            have HBA := Lib.hid (HB9.out.trans (hCA.mono HB9.out.size))
            clear hCA HX9 HR9 HT9 HP9 HR3 HB9 HSM HL0 HLI hd2
            obtain ⟨i1, hi1, hz01, hz11, hz21⟩ := info_parts Tryz.infoInt64
            have H1 := Lib.hid (And.intro hi1 (And.intro hz01 (And.intro hz11 hz21)))
            clear hi1 hz01 hz11 hz21
            have HIN := Lib.hid (usesF_in c.kind)
            have HNL := Lib.hid (fun k => clNums_len c k HL.out)
            have HNO := Lib.hid (clNums_ok HC.out)
            rw [HUL.out] at HIN HNL
            have hul5 : ul.length ≤ 5 := by rw [← HUL.out]; exact usesF_len _
            go_wp2_with fail
            go_loopg [46, 6] (ul.length + 1) (fun g2 i v wx => ∃ (k : Nat) (ns : List Int) (Bv : Option Addr) (cb : Nat), i = .int .i64 k ∧ v = .slice Bv ns.length cb ∧ k ≤ ul.length ∧ ul.length - k < g2 ∧ Hid (clNums c (ul.take k) = ns) ∧ Hid (wx.ownsRow wA.heap.size 2 1 (.slice Bv ns.length cb) ns.length (ns.map (Value.int .i64))) ∧ Hid (Below wA.heap.size wA wx))
            case atStart => exact ⟨0, [], none, 0, rfl, rfl, by omega, by omega, Lib.hid rfl, Lib.hid (World.ownsRow_nil _ _ _ _), Lib.hid (Below.refl _ _)⟩
            case round =>
              obtain ⟨k, ns, Bv, cb, rfl, rfl, hk, hg2, HNS, HOW, HBX⟩ := hrel
              obtain ⟨g, rfl⟩ : ∃ g, gk = g + 1 := ⟨gk - 1, by omega⟩
              have HBB := Lib.hid (HBA.out.trans (HBX.out.mono HBA.out.size))
              have hns60 : ns.length ≤ 60 := by rw [← HNS.out]; exact HNL.out k
              by_cases hlt : k < ul.length
              · obtain ⟨b2, o2, eb, hbl2, c0⟩ := (HR3A.out.below HBX.out) k hlt
                cases eb
                have HTK := Lib.hid (clNums_take c ul k hlt)
                rw [HNS.out] at HTK
                have HFN := Lib.hid (HIN.out ul[k] (List.getElem_mem hlt))
                have hns1 : (clNums c (ul.take (k + 1))).length ≤ 60 := HNL.out (k + 1)
                have HNS1 := Lib.hid hns1
                have HXW := Lib.hid (HXA.out.below HBX.out)
                clear hbl2 hns1
                generalize ul[k] = f at *
                by_cases hf9 : f = 9
                · subst hf9
                  have HT2 := Lib.hid (show clNums c (ul.take (k + 1)) = ns by rw [HTK.out]; simp)
                  go_wp2_with fail
                  go_roundg g
                  case measure => omega
                  case rel => exact ⟨k + 1, ns, Bv, cb, by go_num, rfl, by omega, by omega, HT2, HOW, HBX⟩
                have hd9 : (f == 9) = false := by simpa using hf9
                by_cases hf8 : f = 8
                · subst hf8
                  have x8 := HXW.out.at.g8
                  have HT2 := Lib.hid (show clNums c (ul.take (k + 1)) = ns ++ c.reqs by rw [HTK.out]; simp)
                  clear hd9 hf9
                  go_upto_region 11 with fail
                  go_wp2_with fail
                  go_loopg [62, 6] (c.reqs.length + 1) (fun g3 i v wy => ∃ (j : Nat) (ms : List Int) (Bw : Option Addr) (cw : Nat), i = .int .i64 j ∧ v = .slice Bw ms.length cw ∧ j ≤ c.reqs.length ∧ c.reqs.length - j < g3 ∧ Hid (ns ++ c.reqs.take j = ms) ∧ Hid (wy.ownsRow wA.heap.size 2 1 (.slice Bw ms.length cw) ms.length (ms.map (Value.int .i64))) ∧ Hid (Below wA.heap.size wA wy))
                  case atStart => exact ⟨0, ns, Bv, cb, rfl, rfl, by omega, by omega, Lib.hid (by simp), HOW, HBX⟩
                  case round =>
                    clear HOW HBB HXW x8 c0 HNS
                    obtain ⟨j, ms, Bw, cw, rfl, rfl, hj, hg3, HMS, HOY, HBY⟩ := hrel
                    obtain ⟨g3, rfl⟩ : ∃ g3', gk = g3' + 1 := ⟨gk - 1, by omega⟩
                    have hl60 : c.reqs.length ≤ 60 := HL.out
                    have hms : ms.length ≤ 120 := by
                      rw [← HMS.out, List.length_append, List.length_take]
                      have := HL.out
                      omega
                    by_cases hjl : j < c.reqs.length
                    · obtain ⟨b4, o4, rfl, hbl4, d0⟩ := (HRA.out.below HBY.out) j hjl
                      have HMT := Lib.hid (show ns ++ c.reqs.take (j + 1) = ms ++ [c.reqs[j]] by rw [List.take_succ_eq_append_getElem hjl, ← List.append_assoc, HMS.out])
                      generalize c.reqs[j] = x at *
                      clear hbl4 hns60
                      have hab : Below wr.heap.size wr (wr.alloc (.cells #[.int .i64 x] 2)) := (Below.refl _ _).alloc (Nat.le_refl _) _
                      have HO7 := Lib.hid (HOY.out.alloc (.cells #[.int .i64 x] 2))
                      have HB7 := Lib.hid (HBY.out.alloc HBY.out.size (.cells #[.int .i64 x] 2))
                      have HNEWS := Lib.hid (World.news_of_block (w := wr.alloc (.cells #[.int .i64 x] 2)) (B := wr.heap.size) (cs := #[.int .i64 x]) (t := 2) (fr := (0, 0)) (heap_alloc_new _ _))
                      have HONE := Lib.hid (show ∀ y ∈ [Value.int .i64 x], y.oneCell' = true by simp [Value.oneCell'])
                      have H63 := Lib.hid (show ms.length + 1 ≤ maxLen by unfold maxLen; omega)
                      have HBY := Lib.hid (show (ms.length + 1) * 8 ≤ 140737488355328 by omega)
                      have HBASE := Lib.hid HB7.out.size
                      clear hab
                      go_wp2_with (at_builtin; refine wpList_append_lies _ rfl (.tmp 66) (.tmp 68) 43 rfl wA.heap.size 2 i1 _ 1 8 Tryz.underlying43 H1.out.1 H1.out.2.1 H1.out.2.2.1 H1.out.2.2.2 rfl (by decide) (.slice Bw ms.length cw) ms.length _ rfl HO7.out ⟨wr.heap.size, 0, none⟩ 1 1 [Value.int .i64 x] rfl rfl HNEWS.out HONE.out (by decide) H63.out HBY.out HBASE.out _ rfl ?_)
                      intro gq cp3 w8 hown hgrow _ _
                      have HO8 := Lib.hid (show w8.ownsRow wA.heap.size 2 1 (.slice (some ⟨gq, 0, none⟩) (ms.length + 1) cp3) (ms.length + 1) ((ms ++ [x]).map (Value.int .i64)) by rw [List.map_append]; exact hown)
                      have HB8 := Lib.hid (below_grown5 HB7.out hgrow HBASE.out (fun g hg => (HO7.out.lt g hg).1))
                      clear hown hgrow HO7 HB7 HNEWS HONE H63 HBY HBASE
                      go_wp2_with fail
                      go_roundg g3
                      case measure => omega
                      case rel => exact ⟨j + 1, ms ++ [x], some ⟨gq, 0, none⟩, cp3, by go_num, by simp, by omega, by omega, HMT, by simpa using HO8, HB8⟩
                    · obtain rfl : j = c.reqs.length := by omega
                      have HT3 := Lib.hid (show clNums c (ul.take (k + 1)) = ms by rw [HT2.out, ← HMS.out, List.take_length])
                      go_wp2_with fail
                      go_roundg g
                      case measure => omega
                      case rel => exact ⟨k + 1, ms, Bw, cw, by go_num, rfl, by omega, by omega, HT3, HOY, HBY⟩
                · have hd8 : (f == 8) = false := by simpa using hf8
                  obtain ⟨fn, rfl, hf10⟩ := HFN.out
                  have HT2 := Lib.hid (show clNums c (ul.take (k + 1)) = ns ++ [getF c fn] by rw [HTK.out, if_neg hf8, if_neg hf9]; rfl)
                  have HG := Lib.hid (get_any fn hf10 c A cap HC.out.op wr)
                  generalize getF c fn = x at *
                  have x0 := HXW.out.at.g0
                  have x1 := HXW.out.at.g1
                  have x2 := HXW.out.at.g2
                  have x3 := HXW.out.at.g3
                  have x4 := HXW.out.at.g4
                  have x5 := HXW.out.at.g5
                  have x6 := HXW.out.at.g6
                  have x7 := HXW.out.at.g7
                  have x8 := HXW.out.at.g8
                  have x9 := HXW.out.at.g9
                  have xA := HXW.out.at.gA
                  clear hf8 hf9 HFN
                  go_upto_region 9 with fail
                  go_wp2_with fail
                  refine HG.out.mono ?_
                  rintro e wy ⟨rfl, hby⟩
                  have HOY := Lib.hid (own_below5 HOW.out hby)
                  have HBY := Lib.hid (HBX.out.trans (hby.mono HBX.out.size))
                  clear hby HG c0 x0 x1 x2 x3 x4 x5 x6 x7 x8 x9 xA
                  have hab : Below wy.heap.size wy (wy.alloc (.cells #[.int .i64 x] 2)) := (Below.refl _ _).alloc (Nat.le_refl _) _
                  have HO7 := Lib.hid (HOY.out.alloc (.cells #[.int .i64 x] 2))
                  have HB7 := Lib.hid (HBY.out.alloc HBY.out.size (.cells #[.int .i64 x] 2))
                  have HNEWS := Lib.hid (World.news_of_block (w := wy.alloc (.cells #[.int .i64 x] 2)) (B := wy.heap.size) (cs := #[.int .i64 x]) (t := 2) (fr := (0, 0)) (heap_alloc_new _ _))
                  have HONE := Lib.hid (show ∀ y ∈ [Value.int .i64 x], y.oneCell' = true by simp [Value.oneCell'])
                  have H63 := Lib.hid (show ns.length + 1 ≤ maxLen by unfold maxLen; omega)
                  have HBY := Lib.hid (show (ns.length + 1) * 8 ≤ 140737488355328 by omega)
                  have HBASE := Lib.hid HB7.out.size
                  clear hab
                  go_wp2_with (at_builtin; refine wpList_append_lies _ rfl (.tmp 51) (.tmp 55) 43 rfl wA.heap.size 2 i1 _ 1 8 Tryz.underlying43 H1.out.1 H1.out.2.1 H1.out.2.2.1 H1.out.2.2.2 rfl (by decide) (.slice Bv ns.length cb) ns.length _ rfl HO7.out ⟨wy.heap.size, 0, none⟩ 1 1 [Value.int .i64 x] rfl rfl HNEWS.out HONE.out (by decide) H63.out HBY.out HBASE.out _ rfl ?_)
                  intro g3 cp3 w8 hown hgrow _ _
                  have HO8 := Lib.hid (show w8.ownsRow wA.heap.size 2 1 (.slice (some ⟨g3, 0, none⟩) (ns.length + 1) cp3) (ns.length + 1) ((ns ++ [x]).map (Value.int .i64)) by rw [List.map_append]; exact hown)
                  have HB8 := Lib.hid (below_grown5 HB7.out hgrow HBASE.out (fun g hg => (HO7.out.lt g hg).1))
                  clear hown hgrow HO7 HB7 HNEWS HONE H63 HBY HBASE
                  go_wp2_with fail
                  go_roundg g
                  case measure => omega
                  case rel => exact ⟨k + 1, ns ++ [x], some ⟨g3, 0, none⟩, cp3, by go_num, by simp, by omega, by omega, HT2, by simpa using HO8, HB8⟩
              · obtain rfl : k = ul.length := by omega
                have HNA := Lib.hid (show clNums c ul = ns by rw [← HNS.out, List.take_length])
                have HNSO := Lib.hid (show ∀ n ∈ ns, I64 n by rw [← HNA.out]; exact HNO.out ul)
                have HXW := Lib.hid (HXA.out.below HBX.out)
                obtain ⟨kn, hkn⟩ : ∃ kn : Nat, c.kind = (kn : Int) + 1 := ⟨(c.kind - 1).toNat, by omega⟩
                have x0 := HXW.out.at.g0
                have x7 := HXW.out.at.g7
                obtain ⟨on, hon⟩ : ∃ on : Nat, c.op = on := ⟨c.op.toNat, by have := HC.out.op; omega⟩
                rw [hkn] at x0
                rw [hon] at x7
                have HKN := Lib.hid hkn
                have HON := Lib.hid hon
                have hk22' : kn < 22 := by omega
                have hkt : (kn : Int).toNat = kn := rfl
                have hkI : (kn : Int) < 22 := by omega
                have honI : (on : Int) < 3 := by have := HO.out; omega
                have hont : (on : Int).toNat = on := rfl
                have hon2 : on ≤ 2 := by have := HO.out; omega
                have HTW := Lib.hid (HTA.out.below HBX.out)
                have hw0 := HTW.out.words kn hk22'
                obtain ⟨wd, hwd⟩ : ∃ wd : List UInt8, clWords.getD kn [] = wd := ⟨_, rfl⟩
                rw [hwd] at hw0
                have hwdl : wd.length ≤ 20 := by rw [← hwd]; exact words_len kn
                obtain ⟨WB, hWB⟩ : ∃ WB : ByteArray, (⟨wd.toArray⟩ : ByteArray) = WB := ⟨_, rfl⟩
                rw [hWB] at hw0
                have hWBs : WB.size ≤ 20 := by rw [← hWB]; exact hwdl
                have HWD := Lib.hid (show wordK c.kind = wd by
                  rw [← hwd]
                  unfold wordK
                  rw [if_pos (by omega)]
                  congr 1
                  omega)
                have hr0 := HTW.out.reds on (by omega)
                obtain ⟨rd, hrd⟩ : ∃ rd : List UInt8, clReds.getD on [] = rd := ⟨_, rfl⟩
                rw [hrd] at hr0
                have hrdl : rd.length ≤ 20 := by rw [← hrd]; exact reds_len on
                obtain ⟨DB, hDB⟩ : ∃ DB : ByteArray, (⟨rd.toArray⟩ : ByteArray) = DB := ⟨_, rfl⟩
                rw [hDB] at hr0
                have hDBs : DB.size ≤ 20 := by rw [← hDB]; exact hrdl
                have HRD := Lib.hid (show redK c.op = rd by
                  rw [← hrd]
                  unfold redK
                  congr 1
                  omega)
                have HIR := Lib.hid (show IntRow wr Bv ns from fun k hk => by
                  obtain ⟨A', c', e, _, _, h1, h2⟩ := own_shape HOW.out
                  cases e
                  cases Bv with
                  | none => have := (h2 rfl).1; omega
                  | some a =>
                    obtain ⟨g, rfl, _, hlt⟩ := h1 a rfl
                    refine ⟨g, 0, rfl, hlt, ?_⟩
                    rw [Nat.zero_add, HOW.out.cellAt k (by omega)]
                    simp [List.getElem?_eq_getElem hk])
                have HROW := Lib.hid (fun wz (h : Below wr.heap.size wr wz) => row16_any ⟨#[44, 32]⟩ Bv cb ns wz (HIR.out.below h) (by decide) (by omega) HNSO.out ((HPA.out.below HBX.out).below h))
                have HCO := Lib.hid (fun wz (h : Below wr.heap.size wr wz) => Tryz.slices_Contains_int b oo ul.length ul.length ul 9 wz (Nat.le_refl _) (by omega) (fun j hj => by
                  obtain ⟨b5, o5, e5, _, h5⟩ := ((HR3A.out.below HBX.out).below h) j hj
                  cases e5
                  rw [h5]
                  simp [List.getD, List.getElem?_eq_getElem hj]))
                rw [List.take_length] at HCO
                obtain ⟨RB, hRB⟩ : ∃ RB : ByteArray, (⟨(Lib.join (ns.map Lib.itoa) [44, 32]).toArray⟩ : ByteArray) = RB := ⟨_, rfl⟩
                have hRBs : RB.size ≤ 1500 := by rw [← hRB]; exact nums_len ns HNSO.out hns60
                simp only [show ((⟨#[44, 32]⟩ : ByteArray).data.toList) = [44, 32] from rfl, hRB] at HROW
                have HWB := Lib.hid hWB
                have HRB := Lib.hid hRB
                have HDB := Lib.hid hDB
                clear hWB hRB hDB hwdl hrdl
                have hs1 : ¬ 9223372036854775807 < WB.size + 1 := by omega
                have hs2 : ¬ 9223372036854775807 < WB.size + 1 + RB.size := by omega
                clear hkn hon hwd hrd HOW HNS hns60 hk1 hk22
                have hgw : 0 < wr.heap.size := World.block_lt_of_cell? wr _ hw0
                have k0 := fun d os => cell_regrown x0 d os
                have kw := fun d os => cell_regrown hw0 d os
                have hki : IntKind.u8.wrap ((kn : Int) + 1 - 1) = (kn : Int) := by
                  rw [IntWalk.u8_in _ (by omega)]
                  omega
                have hki2 : IntKind.u8.wrap (kn : Int) = (kn : Int) := IntWalk.u8_in _ (by omega)
                go_upto_region 18 with fail
                refine wp_region_quiet_below (by kernel_rfl) (by kernel_rfl) ?_
                repeat (quiet_step (with_reducible exact Calls.regrown_of (HROW.out _ (below_regrown _ _ _))))
                refine wpQuiet_nil ?_
                intro _ hw'
                obtain ⟨⟨dq, osq⟩, hw''⟩ := hw'
                subst hw''
                have HBQ := Lib.hid (below_regrown wr dq osq)
                clear k0 kw hki hki2 HROW hgw
                have HCO2 := Lib.hid (HCO.out _ HBQ.out)
                have x7' := cell_later HBQ.out x7
                have hr0' := cell_later HBQ.out hr0
                have HBZ := Lib.hid (HBB.out.trans (HBQ.out.mono HBB.out.size))
                clear x7 hr0 x0 hw0 HCO
                generalize grow (redrawn wr dq) osq = wz at *
                have HTEXT := Lib.hid (show ∀ (tl : List UInt8), tl = (if ul.contains 9 = true then [44, 32] ++ rd else []) → textOfC c = wd ++ [40] ++ Lib.join (ns.map Lib.itoa) [44, 32] ++ tl ++ [41] from fun tl htl => by
                  unfold textOfC clText
                  rw [HYES.out, HUL.out, HNA.out, HWD.out, HRD.out, htl]
                  rfl)
                have HERR := Lib.hid (show errOfC c = 0 by unfold errOfC; rw [HYES.out]; rfl)
                obtain ⟨has9, h9⟩ : ∃ x, ul.contains (9 : Int) = x := ⟨_, rfl⟩
                rw [h9] at HCO2 HTEXT
                clear h9
                have hgr : 1 < wz.heap.size := World.block_lt_of_cell? wz _ hr0'
                go_wp2_with fail
                refine HCO2.out.mono ?_
                rintro e wz ⟨rfl, rfl⟩
                cases has9
                case false =>
                  have HTX := Lib.hid (HTEXT.out [] rfl)
                  clear HCO2 HTEXT x7' hr0'
                  go_wp2_with fail
                  go_ret2
                  refine ⟨?_, HBZ.out⟩
                  rw [HTX.out, HERR.out]
                  refine congrArg (fun s => Ending.returned (.tuple #[.string s, .int .i64 0])) ?_
                  rw [← HWB.out, ← HRB.out, show (⟨#[40]⟩ : ByteArray) = ⟨([40] : List UInt8).toArray⟩ from rfl, show (⟨#[41]⟩ : ByteArray) = ⟨([41] : List UInt8).toArray⟩ from rfl]
                  simp only [ba_app16, List.append_nil, List.append_assoc]
                case true =>
                  have HTX := Lib.hid (HTEXT.out ([44, 32] ++ rd) (by simp))
                  clear HCO2 HTEXT
                  go_wp2_with fail
                  go_ret2
                  refine ⟨?_, HBZ.out⟩
                  rw [HTX.out, HERR.out]
                  refine congrArg (fun s => Ending.returned (.tuple #[.string s, .int .i64 0])) ?_
                  rw [← HWB.out, ← HRB.out, ← HDB.out, show (⟨#[40]⟩ : ByteArray) = ⟨([40] : List UInt8).toArray⟩ from rfl, show (⟨#[41]⟩ : ByteArray) = ⟨([41] : List UInt8).toArray⟩ from rfl, show (⟨#[44, 32]⟩ : ByteArray) = ⟨([44, 32] : List UInt8).toArray⟩ from rfl]
                  simp only [ba_app16, List.append_assoc]
      case neg =>
        have he8 : (l0 == 8) = false := by simpa using h8
        have HYES := Lib.hid (textB_yes HK.out HM.out HO.out (.inl (by rw [HLE.out]; simpa using h8)))
        clear h8
        refine wp_region_relg (fun w' => Below w9.heap.size w9 w') (goodBy [(19, .is (.bool true)), (20, .is (.bool false)), (21, .is (.bool false)), (22, .is (.agg (clCells c A cap))), (23, .is (.agg (clCells c A cap))), (24, .such (TrimGood c) (TrimGood.stay c)), (25, .is (.bool true)), (26, .is (.bool false)), (27, .is (.bool false)), (28, .is (.bool false)), (29, .is (.pointer (some ⟨w.heap.size, 7, none⟩))), (30, .is (.int .u8 c.op)), (31, .is (.bool false)), (32, .is (.bool false)), (33, .is (.bool false)), (34, .is (.slice (some ⟨b, oo, none⟩) ul.length ul.length)), (35, .is (.pointer (some ⟨b, oo, none⟩))), (36, .is (.int .i64 l0)), (37, .is (.bool false)), (38, .is (.bool false)), (39, .is undef), (40, .is undef), (41, .is undef), (42, .is (.bool false)), (43, .is (.bool false))]) (by first | assumption | kernel_rfl) (by first | rfl | kernel_rfl) (Below.refl _ _).drew ?_ ?_
        · intro i o ho ρ wx hCx hout hcon hdep
          have x1 : ρ (.tmp 1) = .pointer (some ⟨w.heap.size, 0, none⟩) := hout 1 (by decide)
          have x5 : ρ (.tmp 5) = .bool true := hout 5 (by decide)
          have x4 : ρ (.tmp 4) = .slice (some ⟨b, oo, none⟩) ul.length ul.length := hout 4 (by decide)
          have y0 := cell_later hCx HX9.out.at.g0
          have y1 := cell_later hCx HX9.out.at.g1
          have y2 := cell_later hCx HX9.out.at.g2
          have y3 := cell_later hCx HX9.out.at.g3
          have y4 := cell_later hCx HX9.out.at.g4
          have y5 := cell_later hCx HX9.out.at.g5
          have y6 := cell_later hCx HX9.out.at.g6
          have y7 := cell_later hCx HX9.out.at.g7
          have y8 := cell_later hCx HX9.out.at.g8
          have y9 := cell_later hCx HX9.out.at.g9
          have yA := cell_later hCx HX9.out.at.gA
          have yl := cell_later hCx HL0.out
          have xc : ∀ c : Value, ρ (.const c) = c := fun c => hcon (.const c) (fun t h => by cases h)
          skip
          have xf : ∀ f : FuncId, ρ (.func f) = .func (.func f) #[] #[] := fun f => hcon (.func f) (fun t h => by cases h)
          match i, ho with
          | 0, ho =>
            simp only [List.getElem?_toArray, List.getElem?_cons_zero, List.getElem?_cons_succ, Option.some.injEq] at ho
            subst ho
            rw [if_pos (wantR_none rfl)]
            generalize hR : (fun (u : Value) (w' : World) => Below w9.heap.size w9 w' ∧ _) = R
            clear hout hcon hdep
            go_simp
            subst hR
            exact ⟨hCx, fun s u h => h, fun d hd => (by obtain rfl : 19 = d := Option.some.inj hd; exact rfl)⟩
          | 1, ho =>
            simp only [List.getElem?_toArray, List.getElem?_cons_zero, List.getElem?_cons_succ, Option.some.injEq] at ho
            subst ho
            rw [if_pos (wantR_none rfl)]
            have d19 := hdep ⟨0, .data⟩ (by simp) rfl _ rfl 19 rfl
            change ρ (.tmp 19) = _ at d19
            generalize hR : (fun (u : Value) (w' : World) => Below w9.heap.size w9 w' ∧ _) = R
            clear hout hcon hdep
            go_simp
            subst hR
            exact ⟨hCx, fun s u h => h, fun d hd => (by obtain rfl : 20 = d := Option.some.inj hd; exact rfl)⟩
          | 2, ho =>
            simp only [List.getElem?_toArray, List.getElem?_cons_zero, List.getElem?_cons_succ, Option.some.injEq] at ho
            subst ho
            rw [if_pos (wantR_none rfl)]
            have d20 := hdep ⟨1, .data⟩ (by simp) rfl _ rfl 20 rfl
            change ρ (.tmp 20) = _ at d20
            generalize hR : (fun (u : Value) (w' : World) => Below w9.heap.size w9 w' ∧ _) = R
            clear hout hcon hdep
            go_simp
            subst hR
            exact ⟨hCx, fun s u h => h, fun d hd => (by obtain rfl : 21 = d := Option.some.inj hd; exact rfl)⟩
          | 3, ho =>
            simp only [List.getElem?_toArray, List.getElem?_cons_zero, List.getElem?_cons_succ, Option.some.injEq] at ho
            subst ho
            have dG := hdep ⟨2, .guard⟩ (by simp) rfl _ rfl 21 rfl
            change ρ (.tmp 21) = _ at dG
            rw [if_pos (by rw [wantR_some rfl rfl rfl dG]; decide)]
            clear dG
            generalize hR : (fun (u : Value) (w' : World) => Below w9.heap.size w9 w' ∧ _) = R
            clear hout hcon hdep
            go_simp
            subst hR
            exact ⟨hCx, fun s u h => h, fun d hd => (by obtain rfl : 22 = d := Option.some.inj hd; exact rfl)⟩
          | 4, ho =>
            simp only [List.getElem?_toArray, List.getElem?_cons_zero, List.getElem?_cons_succ, Option.some.injEq] at ho
            subst ho
            have dG := hdep ⟨2, .guard⟩ (by simp) rfl _ rfl 21 rfl
            change ρ (.tmp 21) = _ at dG
            rw [if_pos (by rw [wantR_some rfl rfl rfl dG]; decide)]
            clear dG
            generalize hR : (fun (u : Value) (w' : World) => Below w9.heap.size w9 w' ∧ _) = R
            clear hout hcon hdep
            go_simp
            subst hR
            exact ⟨hCx, fun s u h => h, fun d hd => (by obtain rfl : 23 = d := Option.some.inj hd; exact rfl)⟩
          | 5, ho =>
            simp only [List.getElem?_toArray, List.getElem?_cons_zero, List.getElem?_cons_succ, Option.some.injEq] at ho
            subst ho
            have dG := hdep ⟨2, .guard⟩ (by simp) rfl _ rfl 21 rfl
            change ρ (.tmp 21) = _ at dG
            rw [if_pos (by rw [wantR_some rfl rfl rfl dG]; decide)]
            clear dG
            have d23 := hdep ⟨4, .data⟩ (by simp) rfl _ rfl 23 rfl
            change ρ (.tmp 23) = _ at d23
            generalize hR : (fun (u : Value) (w' : World) => Below w9.heap.size w9 w' ∧ _) = R
            clear hout hcon hdep
            go_simp
            rw [stepOk_enter]
            refine (trim_any c A cap wx (HR9.out.below hCx) (by have := HL.out; omega) HC.out.op).mono ?_
            rintro e w2 ⟨TB, tc, rfl, hi2, hf2, hb2⟩
            subst hR
            exact ⟨_, rfl, hCx.trans (hb2.mono hCx.size), goodBy_stay hb2, fun d hd => (by obtain rfl : 24 = d := Option.some.inj hd; exact ⟨TB, tc, rfl, hi2⟩)⟩
          | 6, ho =>
            simp only [List.getElem?_toArray, List.getElem?_cons_zero, List.getElem?_cons_succ, Option.some.injEq] at ho
            subst ho
            have dG := hdep ⟨2, .guard⟩ (by simp) rfl _ rfl 21 rfl
            change ρ (.tmp 21) = _ at dG
            rw [if_pos (by rw [wantR_some rfl rfl rfl dG]; decide)]
            clear dG
            have d22 := hdep ⟨3, .data⟩ (by simp) rfl _ rfl 22 rfl
            change ρ (.tmp 22) = _ at d22
            have d24 := hdep ⟨5, .data⟩ (by simp) rfl _ rfl 24 rfl
            change (TrimGood c) (ρ (.tmp 24)) wx at d24
            generalize hR : (fun (u : Value) (w' : World) => Below w9.heap.size w9 w' ∧ _) = R
            clear hout hcon hdep
            go_simp
            obtain ⟨TB, tc, ht, hi⟩ := d24
            go_simp
            rw [stepOk_enter]
            refine (HSM.out wx TB tc (HR9.out.below hCx) hi).mono ?_
            rintro e w2 ⟨rfl, hb2⟩
            subst hR
            exact ⟨_, rfl, hCx.trans (hb2.mono hCx.size), goodBy_stay hb2, fun d hd => (by obtain rfl : 25 = d := Option.some.inj hd; exact rfl)⟩
          | 7, ho =>
            simp only [List.getElem?_toArray, List.getElem?_cons_zero, List.getElem?_cons_succ, Option.some.injEq] at ho
            subst ho
            have dG := hdep ⟨2, .guard⟩ (by simp) rfl _ rfl 21 rfl
            change ρ (.tmp 21) = _ at dG
            rw [if_pos (by rw [wantR_some rfl rfl rfl dG]; decide)]
            clear dG
            have d25 := hdep ⟨6, .data⟩ (by simp) rfl _ rfl 25 rfl
            change ρ (.tmp 25) = _ at d25
            generalize hR : (fun (u : Value) (w' : World) => Below w9.heap.size w9 w' ∧ _) = R
            clear hout hcon hdep
            go_simp
            subst hR
            exact ⟨hCx, fun s u h => h, fun d hd => (by obtain rfl : 26 = d := Option.some.inj hd; exact rfl)⟩
          | 8, ho =>
            simp only [List.getElem?_toArray, List.getElem?_cons_zero, List.getElem?_cons_succ, Option.some.injEq] at ho
            subst ho
            rw [if_pos (wantR_none rfl)]
            have d21 := hdep ⟨2, .data⟩ (by simp) rfl _ rfl 21 rfl
            change ρ (.tmp 21) = _ at d21
            have d26 := hdep ⟨7, .data⟩ (by simp) rfl _ rfl 26 rfl
            change ρ (.tmp 26) = _ at d26
            generalize hR : (fun (u : Value) (w' : World) => Below w9.heap.size w9 w' ∧ _) = R
            clear hout hcon hdep
            go_simp
            subst hR
            exact ⟨hCx, fun s u h => h, fun d hd => (by obtain rfl : 27 = d := Option.some.inj hd; exact rfl)⟩
          | 9, ho =>
            simp only [List.getElem?_toArray, List.getElem?_cons_zero, List.getElem?_cons_succ, Option.some.injEq] at ho
            subst ho
            rw [if_pos (wantR_none rfl)]
            have d27 := hdep ⟨8, .data⟩ (by simp) rfl _ rfl 27 rfl
            change ρ (.tmp 27) = _ at d27
            generalize hR : (fun (u : Value) (w' : World) => Below w9.heap.size w9 w' ∧ _) = R
            clear hout hcon hdep
            go_simp
            subst hR
            exact ⟨hCx, fun s u h => h, fun d hd => (by obtain rfl : 28 = d := Option.some.inj hd; exact rfl)⟩
          | 10, ho =>
            simp only [List.getElem?_toArray, List.getElem?_cons_zero, List.getElem?_cons_succ, Option.some.injEq] at ho
            subst ho
            have dG := hdep ⟨9, .guard⟩ (by simp) rfl _ rfl 28 rfl
            change ρ (.tmp 28) = _ at dG
            rw [if_pos (by rw [wantR_some rfl rfl rfl dG]; decide)]
            clear dG
            generalize hR : (fun (u : Value) (w' : World) => Below w9.heap.size w9 w' ∧ _) = R
            clear hout hcon hdep
            go_simp
            subst hR
            exact ⟨hCx, fun s u h => h, fun d hd => (by obtain rfl : 29 = d := Option.some.inj hd; exact rfl)⟩
          | 11, ho =>
            simp only [List.getElem?_toArray, List.getElem?_cons_zero, List.getElem?_cons_succ, Option.some.injEq] at ho
            subst ho
            have dG := hdep ⟨9, .guard⟩ (by simp) rfl _ rfl 28 rfl
            change ρ (.tmp 28) = _ at dG
            rw [if_pos (by rw [wantR_some rfl rfl rfl dG]; decide)]
            clear dG
            have d29 := hdep ⟨10, .data⟩ (by simp) rfl _ rfl 29 rfl
            change ρ (.tmp 29) = _ at d29
            generalize hR : (fun (u : Value) (w' : World) => Below w9.heap.size w9 w' ∧ _) = R
            clear hout hcon hdep
            go_simp
            subst hR
            exact ⟨hCx, fun s u h => h, fun d hd => (by obtain rfl : 30 = d := Option.some.inj hd; exact rfl)⟩
          | 12, ho =>
            simp only [List.getElem?_toArray, List.getElem?_cons_zero, List.getElem?_cons_succ, Option.some.injEq] at ho
            subst ho
            have dG := hdep ⟨9, .guard⟩ (by simp) rfl _ rfl 28 rfl
            change ρ (.tmp 28) = _ at dG
            rw [if_pos (by rw [wantR_some rfl rfl rfl dG]; decide)]
            clear dG
            have d30 := hdep ⟨11, .data⟩ (by simp) rfl _ rfl 30 rfl
            change ρ (.tmp 30) = _ at d30
            generalize hR : (fun (u : Value) (w' : World) => Below w9.heap.size w9 w' ∧ _) = R
            clear hout hcon hdep
            go_simp
            subst hR
            exact ⟨hCx, fun s u h => h, fun d hd => (by obtain rfl : 31 = d := Option.some.inj hd; exact rfl)⟩
          | 13, ho =>
            simp only [List.getElem?_toArray, List.getElem?_cons_zero, List.getElem?_cons_succ, Option.some.injEq] at ho
            subst ho
            rw [if_pos (wantR_none rfl)]
            have d28 := hdep ⟨9, .data⟩ (by simp) rfl _ rfl 28 rfl
            change ρ (.tmp 28) = _ at d28
            have d31 := hdep ⟨12, .data⟩ (by simp) rfl _ rfl 31 rfl
            change ρ (.tmp 31) = _ at d31
            generalize hR : (fun (u : Value) (w' : World) => Below w9.heap.size w9 w' ∧ _) = R
            clear hout hcon hdep
            go_simp
            subst hR
            exact ⟨hCx, fun s u h => h, fun d hd => (by obtain rfl : 32 = d := Option.some.inj hd; exact rfl)⟩
          | 14, ho =>
            simp only [List.getElem?_toArray, List.getElem?_cons_zero, List.getElem?_cons_succ, Option.some.injEq] at ho
            subst ho
            rw [if_pos (wantR_none rfl)]
            have d32 := hdep ⟨13, .data⟩ (by simp) rfl _ rfl 32 rfl
            change ρ (.tmp 32) = _ at d32
            generalize hR : (fun (u : Value) (w' : World) => Below w9.heap.size w9 w' ∧ _) = R
            clear hout hcon hdep
            go_simp
            subst hR
            exact ⟨hCx, fun s u h => h, fun d hd => (by obtain rfl : 33 = d := Option.some.inj hd; exact rfl)⟩
          | 15, ho =>
            simp only [List.getElem?_toArray, List.getElem?_cons_zero, List.getElem?_cons_succ, Option.some.injEq] at ho
            subst ho
            have dG := hdep ⟨14, .guard⟩ (by simp) rfl _ rfl 33 rfl
            change ρ (.tmp 33) = _ at dG
            rw [if_pos (by rw [wantR_some rfl rfl rfl dG]; decide)]
            clear dG
            generalize hR : (fun (u : Value) (w' : World) => Below w9.heap.size w9 w' ∧ _) = R
            clear hout hcon hdep
            go_simp
            subst hR
            exact ⟨hCx, fun s u h => h, fun d hd => (by obtain rfl : 34 = d := Option.some.inj hd; exact rfl)⟩
          | 16, ho =>
            simp only [List.getElem?_toArray, List.getElem?_cons_zero, List.getElem?_cons_succ, Option.some.injEq] at ho
            subst ho
            have dG := hdep ⟨14, .guard⟩ (by simp) rfl _ rfl 33 rfl
            change ρ (.tmp 33) = _ at dG
            rw [if_pos (by rw [wantR_some rfl rfl rfl dG]; decide)]
            clear dG
            have d34 := hdep ⟨15, .data⟩ (by simp) rfl _ rfl 34 rfl
            change ρ (.tmp 34) = _ at d34
            generalize hR : (fun (u : Value) (w' : World) => Below w9.heap.size w9 w' ∧ _) = R
            clear hout hcon hdep
            go_simp
            subst hR
            exact ⟨hCx, fun s u h => h, fun d hd => (by obtain rfl : 35 = d := Option.some.inj hd; exact rfl)⟩
          | 17, ho =>
            simp only [List.getElem?_toArray, List.getElem?_cons_zero, List.getElem?_cons_succ, Option.some.injEq] at ho
            subst ho
            have dG := hdep ⟨14, .guard⟩ (by simp) rfl _ rfl 33 rfl
            change ρ (.tmp 33) = _ at dG
            rw [if_pos (by rw [wantR_some rfl rfl rfl dG]; decide)]
            clear dG
            have d35 := hdep ⟨16, .data⟩ (by simp) rfl _ rfl 35 rfl
            change ρ (.tmp 35) = _ at d35
            generalize hR : (fun (u : Value) (w' : World) => Below w9.heap.size w9 w' ∧ _) = R
            clear hout hcon hdep
            go_simp
            subst hR
            exact ⟨hCx, fun s u h => h, fun d hd => (by obtain rfl : 36 = d := Option.some.inj hd; exact rfl)⟩
          | 18, ho =>
            simp only [List.getElem?_toArray, List.getElem?_cons_zero, List.getElem?_cons_succ, Option.some.injEq] at ho
            subst ho
            have dG := hdep ⟨14, .guard⟩ (by simp) rfl _ rfl 33 rfl
            change ρ (.tmp 33) = _ at dG
            rw [if_pos (by rw [wantR_some rfl rfl rfl dG]; decide)]
            clear dG
            have d36 := hdep ⟨17, .data⟩ (by simp) rfl _ rfl 36 rfl
            change ρ (.tmp 36) = _ at d36
            generalize hR : (fun (u : Value) (w' : World) => Below w9.heap.size w9 w' ∧ _) = R
            clear hout hcon hdep
            go_simp
            subst hR
            exact ⟨hCx, fun s u h => h, fun d hd => (by obtain rfl : 37 = d := Option.some.inj hd; exact rfl)⟩
          | 19, ho =>
            simp only [List.getElem?_toArray, List.getElem?_cons_zero, List.getElem?_cons_succ, Option.some.injEq] at ho
            subst ho
            have dG := hdep ⟨14, .guard⟩ (by simp) rfl _ rfl 33 rfl
            change ρ (.tmp 33) = _ at dG
            rw [if_pos (by rw [wantR_some rfl rfl rfl dG]; decide)]
            clear dG
            have d37 := hdep ⟨18, .data⟩ (by simp) rfl _ rfl 37 rfl
            change ρ (.tmp 37) = _ at d37
            generalize hR : (fun (u : Value) (w' : World) => Below w9.heap.size w9 w' ∧ _) = R
            clear hout hcon hdep
            go_simp
            subst hR
            exact ⟨hCx, fun s u h => h, fun d hd => (by obtain rfl : 38 = d := Option.some.inj hd; exact rfl)⟩
          | 20, ho =>
            simp only [List.getElem?_toArray, List.getElem?_cons_zero, List.getElem?_cons_succ, Option.some.injEq] at ho
            subst ho
            have dG := hdep ⟨19, .guard⟩ (by simp) rfl _ rfl 38 rfl
            change ρ (.tmp 38) = _ at dG
            rw [if_neg (by rw [wantR_some rfl rfl rfl dG]; decide)]
            exact fun d hd => (by obtain rfl : 39 = d := Option.some.inj hd; exact rfl)
          | 21, ho =>
            simp only [List.getElem?_toArray, List.getElem?_cons_zero, List.getElem?_cons_succ, Option.some.injEq] at ho
            subst ho
            have dG := hdep ⟨19, .guard⟩ (by simp) rfl _ rfl 38 rfl
            change ρ (.tmp 38) = _ at dG
            rw [if_neg (by rw [wantR_some rfl rfl rfl dG]; decide)]
            exact fun d hd => (by obtain rfl : 40 = d := Option.some.inj hd; exact rfl)
          | 22, ho =>
            simp only [List.getElem?_toArray, List.getElem?_cons_zero, List.getElem?_cons_succ, Option.some.injEq] at ho
            subst ho
            have dG := hdep ⟨19, .guard⟩ (by simp) rfl _ rfl 38 rfl
            change ρ (.tmp 38) = _ at dG
            rw [if_neg (by rw [wantR_some rfl rfl rfl dG]; decide)]
            exact fun d hd => (by obtain rfl : 41 = d := Option.some.inj hd; exact rfl)
          | 23, ho =>
            simp only [List.getElem?_toArray, List.getElem?_cons_zero, List.getElem?_cons_succ, Option.some.injEq] at ho
            subst ho
            have dG := hdep ⟨14, .guard⟩ (by simp) rfl _ rfl 33 rfl
            change ρ (.tmp 33) = _ at dG
            rw [if_pos (by rw [wantR_some rfl rfl rfl dG]; decide)]
            clear dG
            have d38 := hdep ⟨19, .data⟩ (by simp) rfl _ rfl 38 rfl
            change ρ (.tmp 38) = _ at d38
            have d41 := hdep ⟨22, .data⟩ (by simp) rfl _ rfl 41 rfl
            change ρ (.tmp 41) = _ at d41
            generalize hR : (fun (u : Value) (w' : World) => Below w9.heap.size w9 w' ∧ _) = R
            clear hout hcon hdep
            go_simp
            subst hR
            exact ⟨hCx, fun s u h => h, fun d hd => (by obtain rfl : 42 = d := Option.some.inj hd; exact rfl)⟩
          | 24, ho =>
            simp only [List.getElem?_toArray, List.getElem?_cons_zero, List.getElem?_cons_succ, Option.some.injEq] at ho
            subst ho
            rw [if_pos (wantR_none rfl)]
            have d33 := hdep ⟨14, .data⟩ (by simp) rfl _ rfl 33 rfl
            change ρ (.tmp 33) = _ at d33
            have d42 := hdep ⟨23, .data⟩ (by simp) rfl _ rfl 42 rfl
            change ρ (.tmp 42) = _ at d42
            generalize hR : (fun (u : Value) (w' : World) => Below w9.heap.size w9 w' ∧ _) = R
            clear hout hcon hdep
            go_simp
            subst hR
            exact ⟨hCx, fun s u h => h, fun d hd => (by obtain rfl : 43 = d := Option.some.inj hd; exact rfl)⟩
          | n + 25, ho => exact absurd ho (by simp)
        · intro uz wA hCA hg
          have qA : uz 43 = .bool false := hg 24 _ rfl 43 rfl
          generalize hds : dstsOf _ = ds
          obtain rfl : ds = [19, 20, 21, 22, 23, 24, 25, 26, 27, 28, 29, 30, 31, 32, 33, 34, 35, 36, 37, 38, 39, 40, 41, 42, 43] := hds.symm.trans rfl
          simp only [List.foldl_cons, List.foldl_nil, List.setIfInBounds_toArray, List.set_cons_zero, List.set_cons_succ]
          rw [qA]
          clear hg qA
          have HL := Lib.hid (reqs_few HC.out.op HYES.out)
          have HXA := Lib.hid (HX9.out.below hCA)
          have HRA := Lib.hid (HR9.out.below hCA)
          have HTA := Lib.hid (HT9.out.below hCA)
          have HPA := Lib.hid (HP9.out.below hCA)
          have HR3A := Lib.hid (HR3.out.below hCA)
          have HBA := Lib.hid (HB9.out.trans (hCA.mono HB9.out.size))
          clear hCA HX9 HR9 HT9 HP9 HR3 HB9 HSM HL0 HLI hd2
          obtain ⟨i1, hi1, hz01, hz11, hz21⟩ := info_parts Tryz.infoInt64
          have H1 := Lib.hid (And.intro hi1 (And.intro hz01 (And.intro hz11 hz21)))
          clear hi1 hz01 hz11 hz21
          have HIN := Lib.hid (usesF_in c.kind)
          have HNL := Lib.hid (fun k => clNums_len c k HL.out)
          have HNO := Lib.hid (clNums_ok HC.out)
          rw [HUL.out] at HIN HNL
          have hul5 : ul.length ≤ 5 := by rw [← HUL.out]; exact usesF_len _
          go_wp2_with fail
          go_loopg [46, 6] (ul.length + 1) (fun g2 i v wx => ∃ (k : Nat) (ns : List Int) (Bv : Option Addr) (cb : Nat), i = .int .i64 k ∧ v = .slice Bv ns.length cb ∧ k ≤ ul.length ∧ ul.length - k < g2 ∧ Hid (clNums c (ul.take k) = ns) ∧ Hid (wx.ownsRow wA.heap.size 2 1 (.slice Bv ns.length cb) ns.length (ns.map (Value.int .i64))) ∧ Hid (Below wA.heap.size wA wx))
          case atStart => exact ⟨0, [], none, 0, rfl, rfl, by omega, by omega, Lib.hid rfl, Lib.hid (World.ownsRow_nil _ _ _ _), Lib.hid (Below.refl _ _)⟩
          case round =>
            obtain ⟨k, ns, Bv, cb, rfl, rfl, hk, hg2, HNS, HOW, HBX⟩ := hrel
            obtain ⟨g, rfl⟩ : ∃ g, gk = g + 1 := ⟨gk - 1, by omega⟩
            have HBB := Lib.hid (HBA.out.trans (HBX.out.mono HBA.out.size))
            have hns60 : ns.length ≤ 60 := by rw [← HNS.out]; exact HNL.out k
            by_cases hlt : k < ul.length
            · obtain ⟨b2, o2, eb, hbl2, c0⟩ := (HR3A.out.below HBX.out) k hlt
              cases eb
              have HTK := Lib.hid (clNums_take c ul k hlt)
              rw [HNS.out] at HTK
              have HFN := Lib.hid (HIN.out ul[k] (List.getElem_mem hlt))
              have hns1 : (clNums c (ul.take (k + 1))).length ≤ 60 := HNL.out (k + 1)
              have HNS1 := Lib.hid hns1
              have HXW := Lib.hid (HXA.out.below HBX.out)
              clear hbl2 hns1
              generalize ul[k] = f at *
              by_cases hf9 : f = 9
              · subst hf9
                have HT2 := Lib.hid (show clNums c (ul.take (k + 1)) = ns by rw [HTK.out]; simp)
                go_wp2_with fail
                go_roundg g
                case measure => omega
                case rel => exact ⟨k + 1, ns, Bv, cb, by go_num, rfl, by omega, by omega, HT2, HOW, HBX⟩
              have hd9 : (f == 9) = false := by simpa using hf9
              by_cases hf8 : f = 8
              · subst hf8
                have x8 := HXW.out.at.g8
                have HT2 := Lib.hid (show clNums c (ul.take (k + 1)) = ns ++ c.reqs by rw [HTK.out]; simp)
                clear hd9 hf9
                go_upto_region 11 with fail
                go_wp2_with fail
                go_loopg [62, 6] (c.reqs.length + 1) (fun g3 i v wy => ∃ (j : Nat) (ms : List Int) (Bw : Option Addr) (cw : Nat), i = .int .i64 j ∧ v = .slice Bw ms.length cw ∧ j ≤ c.reqs.length ∧ c.reqs.length - j < g3 ∧ Hid (ns ++ c.reqs.take j = ms) ∧ Hid (wy.ownsRow wA.heap.size 2 1 (.slice Bw ms.length cw) ms.length (ms.map (Value.int .i64))) ∧ Hid (Below wA.heap.size wA wy))
                case atStart => exact ⟨0, ns, Bv, cb, rfl, rfl, by omega, by omega, Lib.hid (by simp), HOW, HBX⟩
                case round =>
                  clear HOW HBB HXW x8 c0 HNS
                  obtain ⟨j, ms, Bw, cw, rfl, rfl, hj, hg3, HMS, HOY, HBY⟩ := hrel
                  obtain ⟨g3, rfl⟩ : ∃ g3', gk = g3' + 1 := ⟨gk - 1, by omega⟩
                  have hl60 : c.reqs.length ≤ 60 := HL.out
                  have hms : ms.length ≤ 120 := by
                    rw [← HMS.out, List.length_append, List.length_take]
                    have := HL.out
                    omega
                  by_cases hjl : j < c.reqs.length
                  · obtain ⟨b4, o4, rfl, hbl4, d0⟩ := (HRA.out.below HBY.out) j hjl
                    have HMT := Lib.hid (show ns ++ c.reqs.take (j + 1) = ms ++ [c.reqs[j]] by rw [List.take_succ_eq_append_getElem hjl, ← List.append_assoc, HMS.out])
                    generalize c.reqs[j] = x at *
                    clear hbl4 hns60
                    have hab : Below wr.heap.size wr (wr.alloc (.cells #[.int .i64 x] 2)) := (Below.refl _ _).alloc (Nat.le_refl _) _
                    have HO7 := Lib.hid (HOY.out.alloc (.cells #[.int .i64 x] 2))
                    have HB7 := Lib.hid (HBY.out.alloc HBY.out.size (.cells #[.int .i64 x] 2))
                    have HNEWS := Lib.hid (World.news_of_block (w := wr.alloc (.cells #[.int .i64 x] 2)) (B := wr.heap.size) (cs := #[.int .i64 x]) (t := 2) (fr := (0, 0)) (heap_alloc_new _ _))
                    have HONE := Lib.hid (show ∀ y ∈ [Value.int .i64 x], y.oneCell' = true by simp [Value.oneCell'])
                    have H63 := Lib.hid (show ms.length + 1 ≤ maxLen by unfold maxLen; omega)
                    have HBY := Lib.hid (show (ms.length + 1) * 8 ≤ 140737488355328 by omega)
                    have HBASE := Lib.hid HB7.out.size
                    clear hab
                    go_wp2_with (at_builtin; refine wpList_append_lies _ rfl (.tmp 66) (.tmp 68) 43 rfl wA.heap.size 2 i1 _ 1 8 Tryz.underlying43 H1.out.1 H1.out.2.1 H1.out.2.2.1 H1.out.2.2.2 rfl (by decide) (.slice Bw ms.length cw) ms.length _ rfl HO7.out ⟨wr.heap.size, 0, none⟩ 1 1 [Value.int .i64 x] rfl rfl HNEWS.out HONE.out (by decide) H63.out HBY.out HBASE.out _ rfl ?_)
                    intro gq cp3 w8 hown hgrow _ _
                    have HO8 := Lib.hid (show w8.ownsRow wA.heap.size 2 1 (.slice (some ⟨gq, 0, none⟩) (ms.length + 1) cp3) (ms.length + 1) ((ms ++ [x]).map (Value.int .i64)) by rw [List.map_append]; exact hown)
                    have HB8 := Lib.hid (below_grown5 HB7.out hgrow HBASE.out (fun g hg => (HO7.out.lt g hg).1))
                    clear hown hgrow HO7 HB7 HNEWS HONE H63 HBY HBASE
                    go_wp2_with fail
                    go_roundg g3
                    case measure => omega
                    case rel => exact ⟨j + 1, ms ++ [x], some ⟨gq, 0, none⟩, cp3, by go_num, by simp, by omega, by omega, HMT, by simpa using HO8, HB8⟩
                  · obtain rfl : j = c.reqs.length := by omega
                    have HT3 := Lib.hid (show clNums c (ul.take (k + 1)) = ms by rw [HT2.out, ← HMS.out, List.take_length])
                    go_wp2_with fail
                    go_roundg g
                    case measure => omega
                    case rel => exact ⟨k + 1, ms, Bw, cw, by go_num, rfl, by omega, by omega, HT3, HOY, HBY⟩
              · have hd8 : (f == 8) = false := by simpa using hf8
                obtain ⟨fn, rfl, hf10⟩ := HFN.out
                have HT2 := Lib.hid (show clNums c (ul.take (k + 1)) = ns ++ [getF c fn] by rw [HTK.out, if_neg hf8, if_neg hf9]; rfl)
                have HG := Lib.hid (get_any fn hf10 c A cap HC.out.op wr)
                generalize getF c fn = x at *
                have x0 := HXW.out.at.g0
                have x1 := HXW.out.at.g1
                have x2 := HXW.out.at.g2
                have x3 := HXW.out.at.g3
                have x4 := HXW.out.at.g4
                have x5 := HXW.out.at.g5
                have x6 := HXW.out.at.g6
                have x7 := HXW.out.at.g7
                have x8 := HXW.out.at.g8
                have x9 := HXW.out.at.g9
                have xA := HXW.out.at.gA
                clear hf8 hf9 HFN
                go_upto_region 9 with fail
                go_wp2_with fail
                refine HG.out.mono ?_
                rintro e wy ⟨rfl, hby⟩
                have HOY := Lib.hid (own_below5 HOW.out hby)
                have HBY := Lib.hid (HBX.out.trans (hby.mono HBX.out.size))
                clear hby HG c0 x0 x1 x2 x3 x4 x5 x6 x7 x8 x9 xA
                have hab : Below wy.heap.size wy (wy.alloc (.cells #[.int .i64 x] 2)) := (Below.refl _ _).alloc (Nat.le_refl _) _
                have HO7 := Lib.hid (HOY.out.alloc (.cells #[.int .i64 x] 2))
                have HB7 := Lib.hid (HBY.out.alloc HBY.out.size (.cells #[.int .i64 x] 2))
                have HNEWS := Lib.hid (World.news_of_block (w := wy.alloc (.cells #[.int .i64 x] 2)) (B := wy.heap.size) (cs := #[.int .i64 x]) (t := 2) (fr := (0, 0)) (heap_alloc_new _ _))
                have HONE := Lib.hid (show ∀ y ∈ [Value.int .i64 x], y.oneCell' = true by simp [Value.oneCell'])
                have H63 := Lib.hid (show ns.length + 1 ≤ maxLen by unfold maxLen; omega)
                have HBY := Lib.hid (show (ns.length + 1) * 8 ≤ 140737488355328 by omega)
                have HBASE := Lib.hid HB7.out.size
                clear hab
                go_wp2_with (at_builtin; refine wpList_append_lies _ rfl (.tmp 51) (.tmp 55) 43 rfl wA.heap.size 2 i1 _ 1 8 Tryz.underlying43 H1.out.1 H1.out.2.1 H1.out.2.2.1 H1.out.2.2.2 rfl (by decide) (.slice Bv ns.length cb) ns.length _ rfl HO7.out ⟨wy.heap.size, 0, none⟩ 1 1 [Value.int .i64 x] rfl rfl HNEWS.out HONE.out (by decide) H63.out HBY.out HBASE.out _ rfl ?_)
                intro g3 cp3 w8 hown hgrow _ _
                have HO8 := Lib.hid (show w8.ownsRow wA.heap.size 2 1 (.slice (some ⟨g3, 0, none⟩) (ns.length + 1) cp3) (ns.length + 1) ((ns ++ [x]).map (Value.int .i64)) by rw [List.map_append]; exact hown)
                have HB8 := Lib.hid (below_grown5 HB7.out hgrow HBASE.out (fun g hg => (HO7.out.lt g hg).1))
                clear hown hgrow HO7 HB7 HNEWS HONE H63 HBY HBASE
                go_wp2_with fail
                go_roundg g
                case measure => omega
                case rel => exact ⟨k + 1, ns ++ [x], some ⟨g3, 0, none⟩, cp3, by go_num, by simp, by omega, by omega, HT2, by simpa using HO8, HB8⟩
            · obtain rfl : k = ul.length := by omega
              have HNA := Lib.hid (show clNums c ul = ns by rw [← HNS.out, List.take_length])
              have HNSO := Lib.hid (show ∀ n ∈ ns, I64 n by rw [← HNA.out]; exact HNO.out ul)
              have HXW := Lib.hid (HXA.out.below HBX.out)
              obtain ⟨kn, hkn⟩ : ∃ kn : Nat, c.kind = (kn : Int) + 1 := ⟨(c.kind - 1).toNat, by omega⟩
              have x0 := HXW.out.at.g0
              have x7 := HXW.out.at.g7
              obtain ⟨on, hon⟩ : ∃ on : Nat, c.op = on := ⟨c.op.toNat, by have := HC.out.op; omega⟩
              rw [hkn] at x0
              rw [hon] at x7
              have HKN := Lib.hid hkn
              have HON := Lib.hid hon
              have hk22' : kn < 22 := by omega
              have hkt : (kn : Int).toNat = kn := rfl
              have hkI : (kn : Int) < 22 := by omega
              have honI : (on : Int) < 3 := by have := HO.out; omega
              have hont : (on : Int).toNat = on := rfl
              have hon2 : on ≤ 2 := by have := HO.out; omega
              have HTW := Lib.hid (HTA.out.below HBX.out)
              have hw0 := HTW.out.words kn hk22'
              obtain ⟨wd, hwd⟩ : ∃ wd : List UInt8, clWords.getD kn [] = wd := ⟨_, rfl⟩
              rw [hwd] at hw0
              have hwdl : wd.length ≤ 20 := by rw [← hwd]; exact words_len kn
              obtain ⟨WB, hWB⟩ : ∃ WB : ByteArray, (⟨wd.toArray⟩ : ByteArray) = WB := ⟨_, rfl⟩
              rw [hWB] at hw0
              have hWBs : WB.size ≤ 20 := by rw [← hWB]; exact hwdl
              have HWD := Lib.hid (show wordK c.kind = wd by
                rw [← hwd]
                unfold wordK
                rw [if_pos (by omega)]
                congr 1
                omega)
              have hr0 := HTW.out.reds on (by omega)
              obtain ⟨rd, hrd⟩ : ∃ rd : List UInt8, clReds.getD on [] = rd := ⟨_, rfl⟩
              rw [hrd] at hr0
              have hrdl : rd.length ≤ 20 := by rw [← hrd]; exact reds_len on
              obtain ⟨DB, hDB⟩ : ∃ DB : ByteArray, (⟨rd.toArray⟩ : ByteArray) = DB := ⟨_, rfl⟩
              rw [hDB] at hr0
              have hDBs : DB.size ≤ 20 := by rw [← hDB]; exact hrdl
              have HRD := Lib.hid (show redK c.op = rd by
                rw [← hrd]
                unfold redK
                congr 1
                omega)
              have HIR := Lib.hid (show IntRow wr Bv ns from fun k hk => by
                obtain ⟨A', c', e, _, _, h1, h2⟩ := own_shape HOW.out
                cases e
                cases Bv with
                | none => have := (h2 rfl).1; omega
                | some a =>
                  obtain ⟨g, rfl, _, hlt⟩ := h1 a rfl
                  refine ⟨g, 0, rfl, hlt, ?_⟩
                  rw [Nat.zero_add, HOW.out.cellAt k (by omega)]
                  simp [List.getElem?_eq_getElem hk])
              have HROW := Lib.hid (fun wz (h : Below wr.heap.size wr wz) => row16_any ⟨#[44, 32]⟩ Bv cb ns wz (HIR.out.below h) (by decide) (by omega) HNSO.out ((HPA.out.below HBX.out).below h))
              have HCO := Lib.hid (fun wz (h : Below wr.heap.size wr wz) => Tryz.slices_Contains_int b oo ul.length ul.length ul 9 wz (Nat.le_refl _) (by omega) (fun j hj => by
                obtain ⟨b5, o5, e5, _, h5⟩ := ((HR3A.out.below HBX.out).below h) j hj
                cases e5
                rw [h5]
                simp [List.getD, List.getElem?_eq_getElem hj]))
              rw [List.take_length] at HCO
              obtain ⟨RB, hRB⟩ : ∃ RB : ByteArray, (⟨(Lib.join (ns.map Lib.itoa) [44, 32]).toArray⟩ : ByteArray) = RB := ⟨_, rfl⟩
              have hRBs : RB.size ≤ 1500 := by rw [← hRB]; exact nums_len ns HNSO.out hns60
              simp only [show ((⟨#[44, 32]⟩ : ByteArray).data.toList) = [44, 32] from rfl, hRB] at HROW
              have HWB := Lib.hid hWB
              have HRB := Lib.hid hRB
              have HDB := Lib.hid hDB
              clear hWB hRB hDB hwdl hrdl
              have hs1 : ¬ 9223372036854775807 < WB.size + 1 := by omega
              have hs2 : ¬ 9223372036854775807 < WB.size + 1 + RB.size := by omega
              clear hkn hon hwd hrd HOW HNS hns60 hk1 hk22
              have hgw : 0 < wr.heap.size := World.block_lt_of_cell? wr _ hw0
              have k0 := fun d os => cell_regrown x0 d os
              have kw := fun d os => cell_regrown hw0 d os
              have hki : IntKind.u8.wrap ((kn : Int) + 1 - 1) = (kn : Int) := by
                rw [IntWalk.u8_in _ (by omega)]
                omega
              have hki2 : IntKind.u8.wrap (kn : Int) = (kn : Int) := IntWalk.u8_in _ (by omega)
              go_upto_region 18 with fail
              refine wp_region_quiet_below (by kernel_rfl) (by kernel_rfl) ?_
              repeat (quiet_step (with_reducible exact Calls.regrown_of (HROW.out _ (below_regrown _ _ _))))
              refine wpQuiet_nil ?_
              intro _ hw'
              obtain ⟨⟨dq, osq⟩, hw''⟩ := hw'
              subst hw''
              have HBQ := Lib.hid (below_regrown wr dq osq)
              clear k0 kw hki hki2 HROW hgw
              have HCO2 := Lib.hid (HCO.out _ HBQ.out)
              have x7' := cell_later HBQ.out x7
              have hr0' := cell_later HBQ.out hr0
              have HBZ := Lib.hid (HBB.out.trans (HBQ.out.mono HBB.out.size))
              clear x7 hr0 x0 hw0 HCO
              generalize grow (redrawn wr dq) osq = wz at *
              have HTEXT := Lib.hid (show ∀ (tl : List UInt8), tl = (if ul.contains 9 = true then [44, 32] ++ rd else []) → textOfC c = wd ++ [40] ++ Lib.join (ns.map Lib.itoa) [44, 32] ++ tl ++ [41] from fun tl htl => by
                unfold textOfC clText
                rw [HYES.out, HUL.out, HNA.out, HWD.out, HRD.out, htl]
                rfl)
              have HERR := Lib.hid (show errOfC c = 0 by unfold errOfC; rw [HYES.out]; rfl)
              obtain ⟨has9, h9⟩ : ∃ x, ul.contains (9 : Int) = x := ⟨_, rfl⟩
              rw [h9] at HCO2 HTEXT
              clear h9
              have hgr : 1 < wz.heap.size := World.block_lt_of_cell? wz _ hr0'
              go_wp2_with fail
              refine HCO2.out.mono ?_
              rintro e wz ⟨rfl, rfl⟩
              cases has9
              case false =>
                have HTX := Lib.hid (HTEXT.out [] rfl)
                clear HCO2 HTEXT x7' hr0'
                go_wp2_with fail
                go_ret2
                refine ⟨?_, HBZ.out⟩
                rw [HTX.out, HERR.out]
                refine congrArg (fun s => Ending.returned (.tuple #[.string s, .int .i64 0])) ?_
                rw [← HWB.out, ← HRB.out, show (⟨#[40]⟩ : ByteArray) = ⟨([40] : List UInt8).toArray⟩ from rfl, show (⟨#[41]⟩ : ByteArray) = ⟨([41] : List UInt8).toArray⟩ from rfl]
                simp only [ba_app16, List.append_nil, List.append_assoc]
              case true =>
                have HTX := Lib.hid (HTEXT.out ([44, 32] ++ rd) (by simp))
                clear HCO2 HTEXT
                go_wp2_with fail
                go_ret2
                refine ⟨?_, HBZ.out⟩
                rw [HTX.out, HERR.out]
                refine congrArg (fun s => Ending.returned (.tuple #[.string s, .int .i64 0])) ?_
                rw [← HWB.out, ← HRB.out, ← HDB.out, show (⟨#[40]⟩ : ByteArray) = ⟨([40] : List UInt8).toArray⟩ from rfl, show (⟨#[41]⟩ : ByteArray) = ⟨([41] : List UInt8).toArray⟩ from rfl, show (⟨#[44, 32]⟩ : ByteArray) = ⟨([44, 32] : List UInt8).toArray⟩ from rfl]
                simp only [ba_app16, List.append_assoc]
end Go.Proofs.YtgphigpbgiceiaaGreatDoor
