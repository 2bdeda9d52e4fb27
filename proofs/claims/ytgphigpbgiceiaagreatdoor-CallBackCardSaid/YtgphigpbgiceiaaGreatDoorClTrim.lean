/- The walk of call.Trim. -/
import Derived.Test.YtgphigpbgiceiaaGreatDoorPk6
import Derived.Test.YtgphigpbgiceiaaGreatDoorPk7
import Derived.Test.YtgphigpbgiceiaaGreatDoorPk8
namespace Go.Proofs.YtgphigpbgiceiaaGreatDoor
open Go.RowKit Go.Sort
set_option linter.unusedVariables false
set_option linter.unusedSimpArgs false

theorem usesF_in (k : Int) : ∀ f ∈ (usesF k).getD [], ∃ n : Nat, f = n ∧ n < 10 := by
  intro f hf
  have h : 0 ≤ f ∧ f < 10 := by
    revert hf
    unfold usesF
    repeat (split; · (simp only [Option.getD_some, List.mem_cons, List.not_mem_nil, or_false]; intro hf; omega))
    simp
  exact ⟨f.toNat, by omega, by omega⟩
theorem usesF_len (k : Int) : ((usesF k).getD []).length ≤ 5 := by
  unfold usesF
  repeat (split; · simp)
  simp
def stepF (c d : Cl) (f : Int) : Cl := if f = 8 then { setF d (getF c f.toNat) f.toNat with reqs := c.reqs } else setF d (getF c f.toNat) f.toNat
def initF (c : Cl) : Cl := ⟨c.kind, 0, 0, 0, 0, 0, 0, 0, [], 0, 0⟩
/-- A call, trim, as the program does it. -/
def trimF (c : Cl) : Cl := match usesF c.kind with
  | some l => l.foldl (stepF c) (initF c)
  | none => zeroCl
theorem setF_reqs (d : Cl) (n : Int) (f : Nat) : (setF d n f).reqs = d.reqs := by
  unfold setF
  split <;> rfl
/-- A row apart of two blocks, in a block of one's own. -/
def TrimRow (n : Nat) (w : World) (B : Option Addr) (l : List Int) (q1 q2 : Nat) : Prop := IntApart w B l q1 q2 ∧ FreshRow n w B l.length
theorem TrimRow.below {n : Nat} {w w' : World} {B : Option Addr} {l : List Int} {q1 q2 : Nat} (h : TrimRow n w B l q1 q2) (hb : Below w.heap.size w w') : TrimRow n w' B l q1 q2 := ⟨⟨h.1.1.below hb, h.1.2⟩, h.2.below hb⟩
theorem TrimRow.set {n : Nat} {w : World} {B : Option Addr} {l : List Int} {q1 q2 : Nat} (h : TrimRow n w B l q1 q2) (p : Addr) (hp : p.block = q1 ∨ p.block = q2) (v : Value) : TrimRow n (w.setCell p v) B l q1 q2 := by
  refine ⟨h.1.set p hp v, h.2.set p (fun a ha e => ?_) v⟩
  obtain ⟨h1, h2⟩ := h.1.2 a ha
  rcases hp with hp | hp
  · exact h1 (e.trans hp)
  · exact h2 (e.trans hp)
set_option maxHeartbeats 16000000 in
set_option maxRecDepth 100000 in
theorem trim_any (c : Cl) (A : Option Addr) (cap : Nat) (w : World) (hR : IntRow w A c.reqs) (hl : c.reqs.length ≤ 1000) (hop : 0 ≤ c.op ∧ c.op ≤ 255) :
    Calls Tryz.prog 11 #[.agg (clCells c A cap)] w fun e w' => ∃ (B : Option Addr) (cb : Nat), e = .returned (.agg (clCells (trimF c) B cb)) ∧ IntRow w' B (trimF c).reqs ∧ FreshRow w.heap.size w' B (trimF c).reqs.length ∧ Below w.heap.size w w' := by
  have e1 : Below w.heap.size w (w.alloc (.cells (clCells c A cap) 24)) := (Below.refl _ _).alloc (Nat.le_refl _) _
  have f1 : ClBlk (w.alloc (.cells (clCells c A cap) 24)) w.heap.size c A cap := ClBlk.new
  obtain ⟨w1, hw1⟩ : ∃ y, y = w.alloc (.cells (clCells c A cap) 24) := ⟨_, rfl⟩
  rw [← hw1] at e1 f1
  have z1 : w1.heap.size = w.heap.size + 1 := by rw [hw1]; simp
  obtain ⟨w2, hw2⟩ : ∃ y, y = w1.alloc (.cells #[.int .u8 0, .int .i64 0, .int .i64 0, .int .i64 0, .int .i64 0, .int .i64 0, .int .i64 0, .int .u8 0, .slice none 0 0, .int .i64 0, .int .i64 0] 24) := ⟨_, rfl⟩
  have e2 : Below w1.heap.size w1 w2 := by rw [hw2]; exact (Below.refl _ _).alloc (Nat.le_refl _) _
  have f2 : ClBlk w2 w1.heap.size ⟨0, 0, 0, 0, 0, 0, 0, 0, [], 0, 0⟩ none 0 := by rw [hw2]; exact heap_alloc_new _ _
  have HB := Lib.hid (e1.trans (e2.mono e1.size))
  have hX := f1.below e2
  have g0 := hX.at.g0
  have HX := Lib.hid hX
  rw [z1] at f2
  have HRB := Lib.hid f2
  have HR := Lib.hid (hR.below HB.out)
  go_enter Tryz.func11, Tryz.ntmps11
  go_upto_region 1 with fail
  rw [← hw1, ← hw2]
  clear hw1 hw2 e1 e2 f1 f2 z1 hR hX
  refine wp_region_rel (fun w' => Below w2.heap.size w2 w') (goodBy [(9, .such UsesAt UsesAt.stay), (10, .is (.pointer (some ⟨w.heap.size, 0, none⟩))), (11, .is (.int .u8 c.kind)), (12, .such (UsesTold c.kind) (UsesTold.stay c.kind)), (8, .such (UsesTold c.kind) (UsesTold.stay c.kind)), (13, .such (UsesRow c.kind) (UsesRow.stay c.kind)), (14, .is (.bool (usesF c.kind).isSome)), (3, .such (UsesRow c.kind) (UsesRow.stay c.kind)), (4, .is (.bool (usesF c.kind).isSome))]) (by first | assumption | kernel_rfl) (by first | rfl | kernel_rfl) (Below.refl _ _).drew ?_ ?_
  · intro i o ho ρ wx hCx hout hcon hdep
    have x1 : ρ (.tmp 1) = .pointer (some ⟨w.heap.size, 0, none⟩) := hout 1 (by decide)
    have y0 := cell_later hCx g0
    have xc : ∀ c : Value, ρ (.const c) = c := fun c => hcon (.const c) (fun t h => by cases h)
    have xf : ∀ f : FuncId, ρ (.func f) = .func (.func f) #[] #[] := fun f => hcon (.func f) (fun t h => by cases h)
    match i, ho with
    | 0, ho =>
      simp only [List.getElem?_toArray, List.getElem?_cons_zero, List.getElem?_cons_succ, Option.some.injEq] at ho
      subst ho
      generalize hR : (fun (u : Value) (w' : World) => Below w2.heap.size w2 w' ∧ _) = R
      clear hout hcon hdep
      go_simp
      rw [stepOk_enter]
      refine (uses_any wx).mono ?_
      rintro e w2 ⟨r, a, b, c1, d, x, f, g, h, rfl, hI, hb2⟩
      subst hR
      exact ⟨_, rfl, hCx.trans (hb2.mono hCx.size), goodBy_stay hb2, fun d hd => (by obtain rfl : 9 = d := Option.some.inj hd; exact ⟨_, r, a, b, c1, _, x, f, g, h, rfl, hI⟩)⟩
    | 1, ho =>
      simp only [List.getElem?_toArray, List.getElem?_cons_zero, List.getElem?_cons_succ, Option.some.injEq] at ho
      subst ho
      generalize hR : (fun (u : Value) (w' : World) => Below w2.heap.size w2 w' ∧ _) = R
      clear hout hcon hdep
      go_simp
      subst hR
      exact ⟨hCx, fun s u h => h, fun d hd => (by obtain rfl : 10 = d := Option.some.inj hd; exact rfl)⟩
    | 2, ho =>
      simp only [List.getElem?_toArray, List.getElem?_cons_zero, List.getElem?_cons_succ, Option.some.injEq] at ho
      subst ho
      have d10 := hdep ⟨1, .data⟩ (by simp) rfl _ rfl 10 rfl
      change ρ (.tmp 10) = _ at d10
      generalize hR : (fun (u : Value) (w' : World) => Below w2.heap.size w2 w' ∧ _) = R
      clear hout hcon hdep
      go_simp
      subst hR
      exact ⟨hCx, fun s u h => h, fun d hd => (by obtain rfl : 11 = d := Option.some.inj hd; exact rfl)⟩
    | 3, ho =>
      simp only [List.getElem?_toArray, List.getElem?_cons_zero, List.getElem?_cons_succ, Option.some.injEq] at ho
      subst ho
      have d9 := hdep ⟨0, .data⟩ (by simp) rfl _ rfl 9 rfl
      change UsesAt (ρ (.tmp 9)) wx at d9
      have d11 := hdep ⟨2, .data⟩ (by simp) rfl _ rfl 11 rfl
      change ρ (.tmp 11) = _ at d11
      generalize hR : (fun (u : Value) (w' : World) => Below w2.heap.size w2 w' ∧ _) = R
      clear hout hcon hdep
      go_simp
      obtain ⟨t, ht, hU⟩ := look_told c.kind _ wx d9
      go_simp
      subst hR
      exact ⟨hCx, fun s u h => h, fun d hd => (by obtain rfl : 12 = d := Option.some.inj hd; exact hU)⟩
    | 4, ho =>
      simp only [List.getElem?_toArray, List.getElem?_cons_zero, List.getElem?_cons_succ, Option.some.injEq] at ho
      subst ho
      have d12 := hdep ⟨3, .data⟩ (by simp) rfl _ rfl 12 rfl
      change (UsesTold c.kind) (ρ (.tmp 12)) wx at d12
      generalize hR : (fun (u : Value) (w' : World) => Below w2.heap.size w2 w' ∧ _) = R
      clear hout hcon hdep
      go_simp
      subst hR
      exact ⟨hCx, fun s u h => h, fun d hd => (by obtain rfl : 8 = d := Option.some.inj hd; exact d12)⟩
    | 5, ho =>
      simp only [List.getElem?_toArray, List.getElem?_cons_zero, List.getElem?_cons_succ, Option.some.injEq] at ho
      subst ho
      have d8 := hdep ⟨4, .data⟩ (by simp) rfl _ rfl 8 rfl
      change (UsesTold c.kind) (ρ (.tmp 8)) wx at d8
      generalize hR : (fun (u : Value) (w' : World) => Below w2.heap.size w2 w' ∧ _) = R
      clear hout hcon hdep
      go_simp
      obtain ⟨t, ht, hU⟩ := d8
      go_simp
      subst hR
      exact ⟨hCx, fun s u h => h, fun d hd => (by obtain rfl : 13 = d := Option.some.inj hd; exact hU)⟩
    | 6, ho =>
      simp only [List.getElem?_toArray, List.getElem?_cons_zero, List.getElem?_cons_succ, Option.some.injEq] at ho
      subst ho
      have d8 := hdep ⟨4, .data⟩ (by simp) rfl _ rfl 8 rfl
      change (UsesTold c.kind) (ρ (.tmp 8)) wx at d8
      generalize hR : (fun (u : Value) (w' : World) => Below w2.heap.size w2 w' ∧ _) = R
      clear hout hcon hdep
      go_simp
      obtain ⟨t, ht, hU⟩ := d8
      go_simp
      subst hR
      exact ⟨hCx, fun s u h => h, fun d hd => (by obtain rfl : 14 = d := Option.some.inj hd; exact rfl)⟩
    | 7, ho =>
      simp only [List.getElem?_toArray, List.getElem?_cons_zero, List.getElem?_cons_succ, Option.some.injEq] at ho
      subst ho
      have d13 := hdep ⟨5, .data⟩ (by simp) rfl _ rfl 13 rfl
      change (UsesRow c.kind) (ρ (.tmp 13)) wx at d13
      generalize hR : (fun (u : Value) (w' : World) => Below w2.heap.size w2 w' ∧ _) = R
      clear hout hcon hdep
      go_simp
      subst hR
      exact ⟨hCx, fun s u h => h, fun d hd => (by obtain rfl : 3 = d := Option.some.inj hd; exact d13)⟩
    | 8, ho =>
      simp only [List.getElem?_toArray, List.getElem?_cons_zero, List.getElem?_cons_succ, Option.some.injEq] at ho
      subst ho
      have d14 := hdep ⟨6, .data⟩ (by simp) rfl _ rfl 14 rfl
      change ρ (.tmp 14) = _ at d14
      generalize hR : (fun (u : Value) (w' : World) => Below w2.heap.size w2 w' ∧ _) = R
      clear hout hcon hdep
      go_simp
      subst hR
      exact ⟨hCx, fun s u h => h, fun d hd => (by obtain rfl : 4 = d := Option.some.inj hd; exact rfl)⟩
    | n + 9, ho => exact absurd ho (by simp)
  · intro us w9 hC9 hg
    have q9 : us 4 = .bool (usesF c.kind).isSome := hg 8 _ rfl 4 rfl
    obtain ⟨B0, ul, hul, q3, hr3⟩ : UsesRow c.kind (us 3) w9 := hg 7 _ rfl 3 rfl
    generalize hds : dstsOf _ = ds
    obtain rfl : ds = [9, 10, 11, 12, 8, 13, 14, 3, 4] := hds.symm.trans rfl
    simp only [List.foldl_cons, List.foldl_nil, List.setIfInBounds_toArray, List.set_cons_zero, List.set_cons_succ]
    rw [q9]
    clear hg q9
    rw [q3]
    clear q3
    have HUL := Lib.hid hul
    have HR3 := Lib.hid hr3
    have HX9 := Lib.hid (HX.out.below hC9)
    have HRB9 := Lib.hid (show CBlk w9 (w.heap.size + 1) (clCells zeroCl none 0) from CBlk.below HRB.out hC9)
    have HR9 := Lib.hid (HR.out.below hC9)
    have HB9 := Lib.hid (HB.out.trans (hC9.mono HB.out.size))
    clear hul hr3 HX HRB HR HB hC9 g0
    have hb1 : w.heap.size ≤ w.heap.size + 1 := by omega
    generalize w.heap.size + 1 = q1 at *
    cases hk : (usesF c.kind).isSome
    case false =>
      have HTZ := Lib.hid (show trimF c = zeroCl by
        unfold trimF
        cases h : usesF c.kind with
        | none => rfl
        | some l => rw [h] at hk; cases hk)
      have f0 := HRB9.out.fz 0
      have f1 := HRB9.out.fz 1
      have f2 := HRB9.out.fz 2
      have f3 := HRB9.out.fz 3
      have f4 := HRB9.out.fz 4
      have f5 := HRB9.out.fz 5
      have f6 := HRB9.out.fz 6
      have f7 := HRB9.out.fz 7
      have f8 := HRB9.out.fz 8
      have f9 := HRB9.out.fz 9
      have fA := HRB9.out.fz 10
      have rl := HRB9.out.lt
      have r0 := HRB9.out.cell 0 _ rfl
      have r1 := HRB9.out.cell 1 _ rfl
      have r2 := HRB9.out.cell 2 _ rfl
      have r3 := HRB9.out.cell 3 _ rfl
      have r4 := HRB9.out.cell 4 _ rfl
      have r5 := HRB9.out.cell 5 _ rfl
      have r6 := HRB9.out.cell 6 _ rfl
      have r7 := HRB9.out.cell 7 _ rfl
      have r8 := HRB9.out.cell 8 _ rfl
      have r9 := HRB9.out.cell 9 _ rfl
      have rA := HRB9.out.cell 10 _ rfl
      go_wp2_with fail
      have s0 : CBlk _ q1 #[.int .u8 0, .int .i64 0, .int .i64 0, .int .i64 0, .int .i64 0, .int .i64 0, .int .i64 0, .int .u8 0, .slice none 0 0, .int .i64 0, .int .i64 0] := CBlk.set HRB9.out 0 (.int .u8 0 : Value)
      have s1 : CBlk _ q1 #[.int .u8 0, .int .i64 0, .int .i64 0, .int .i64 0, .int .i64 0, .int .i64 0, .int .i64 0, .int .u8 0, .slice none 0 0, .int .i64 0, .int .i64 0] := CBlk.set s0 1 (.int .i64 0 : Value)
      have s2 : CBlk _ q1 #[.int .u8 0, .int .i64 0, .int .i64 0, .int .i64 0, .int .i64 0, .int .i64 0, .int .i64 0, .int .u8 0, .slice none 0 0, .int .i64 0, .int .i64 0] := CBlk.set s1 2 (.int .i64 0 : Value)
      have s3 : CBlk _ q1 #[.int .u8 0, .int .i64 0, .int .i64 0, .int .i64 0, .int .i64 0, .int .i64 0, .int .i64 0, .int .u8 0, .slice none 0 0, .int .i64 0, .int .i64 0] := CBlk.set s2 3 (.int .i64 0 : Value)
      have s4 : CBlk _ q1 #[.int .u8 0, .int .i64 0, .int .i64 0, .int .i64 0, .int .i64 0, .int .i64 0, .int .i64 0, .int .u8 0, .slice none 0 0, .int .i64 0, .int .i64 0] := CBlk.set s3 4 (.int .i64 0 : Value)
      have s5 : CBlk _ q1 #[.int .u8 0, .int .i64 0, .int .i64 0, .int .i64 0, .int .i64 0, .int .i64 0, .int .i64 0, .int .u8 0, .slice none 0 0, .int .i64 0, .int .i64 0] := CBlk.set s4 5 (.int .i64 0 : Value)
      have s6 : CBlk _ q1 #[.int .u8 0, .int .i64 0, .int .i64 0, .int .i64 0, .int .i64 0, .int .i64 0, .int .i64 0, .int .u8 0, .slice none 0 0, .int .i64 0, .int .i64 0] := CBlk.set s5 6 (.int .i64 0 : Value)
      have s7 : CBlk _ q1 #[.int .u8 0, .int .i64 0, .int .i64 0, .int .i64 0, .int .i64 0, .int .i64 0, .int .i64 0, .int .u8 0, .slice none 0 0, .int .i64 0, .int .i64 0] := CBlk.set s6 7 (.int .u8 0 : Value)
      have s8 : CBlk _ q1 #[.int .u8 0, .int .i64 0, .int .i64 0, .int .i64 0, .int .i64 0, .int .i64 0, .int .i64 0, .int .u8 0, .slice none 0 0, .int .i64 0, .int .i64 0] := CBlk.set s7 8 (.slice none 0 0 : Value)
      have s9 : CBlk _ q1 #[.int .u8 0, .int .i64 0, .int .i64 0, .int .i64 0, .int .i64 0, .int .i64 0, .int .i64 0, .int .u8 0, .slice none 0 0, .int .i64 0, .int .i64 0] := CBlk.set s8 9 (.int .i64 0 : Value)
      have sA : CBlk _ q1 #[.int .u8 0, .int .i64 0, .int .i64 0, .int .i64 0, .int .i64 0, .int .i64 0, .int .i64 0, .int .u8 0, .slice none 0 0, .int .i64 0, .int .i64 0] := CBlk.set s9 10 (.int .i64 0 : Value)
      have hZ := sA
      clear s0 s1 s2 s3 s4 s5 s6 s7 s8 s9
      have x0 := hZ.cell 0 (.int .u8 0) rfl
      have x1 := hZ.cell 1 (.int .i64 0) rfl
      have x2 := hZ.cell 2 (.int .i64 0) rfl
      have x3 := hZ.cell 3 (.int .i64 0) rfl
      have x4 := hZ.cell 4 (.int .i64 0) rfl
      have x5 := hZ.cell 5 (.int .i64 0) rfl
      have x6 := hZ.cell 6 (.int .i64 0) rfl
      have x7 := hZ.cell 7 (.int .u8 0) rfl
      have x8 := hZ.cell 8 (.slice none 0 0) rfl
      have x9 := hZ.cell 9 (.int .i64 0) rfl
      have xA := hZ.cell 10 (.int .i64 0) rfl
      refine bodyPost_ret (v := .agg #[.int .u8 0, .int .i64 0, .int .i64 0, .int .i64 0, .int .i64 0, .int .i64 0, .int .i64 0, .int .u8 0, .slice none 0 0, .int .i64 0, .int .i64 0]) (by simp [results, Tryz.results11, go_sem, x0, x1, x2, x3, x4, x5, x6, x7, x8, x9, xA]) rfl ?_
      exact ⟨none, 0, by rw [HTZ.out]; rfl, by rw [HTZ.out]; exact (fun k hk => absurd hk (by simp [zeroCl])), by rw [HTZ.out]; exact (fun h => absurd h (by simp [zeroCl])), (Below.setCell (Below.setCell (Below.setCell (Below.setCell (Below.setCell (Below.setCell (Below.setCell (Below.setCell (Below.setCell (Below.setCell (Below.setCell HB9.out (p := ⟨q1, 0, none⟩) hb1 _) (p := ⟨q1, 1, none⟩) hb1 _) (p := ⟨q1, 2, none⟩) hb1 _) (p := ⟨q1, 3, none⟩) hb1 _) (p := ⟨q1, 4, none⟩) hb1 _) (p := ⟨q1, 5, none⟩) hb1 _) (p := ⟨q1, 6, none⟩) hb1 _) (p := ⟨q1, 7, none⟩) hb1 _) (p := ⟨q1, 8, none⟩) hb1 _) (p := ⟨q1, 9, none⟩) hb1 _) (p := ⟨q1, 10, none⟩) hb1 _)⟩
    case true =>
      have HTF := Lib.hid (show trimF c = ul.foldl (stepF c) (initF c) by
        unfold trimF
        rw [← HUL.out]
        cases h : usesF c.kind with
        | none => rw [h] at hk; cases hk
        | some l => rfl)
      have g0 := HX9.out.at.g0
      obtain ⟨wa, hwa⟩ : ∃ y, y = w9.alloc (.cells #[.int .u8 c.kind, .int .i64 0, .int .i64 0, .int .i64 0, .int .i64 0, .int .i64 0, .int .i64 0, .int .u8 0, .slice none 0 0, .int .i64 0, .int .i64 0] 24) := ⟨_, rfl⟩
      have HDA := Lib.hid (show ClBlk wa w9.heap.size (initF c) none 0 by rw [hwa]; exact heap_alloc_new _ _)
      have HBA := Lib.hid (show Below w9.heap.size w9 wa by rw [hwa]; exact (Below.refl _ _).alloc (Nat.le_refl _) _)
      have HWA := Lib.hid hwa
      clear hwa
      go_upto_region 6 with fail
      rw [← HWA.out]
      have HQ1 := Lib.hid (show q1 < w9.heap.size from HRB9.out.lt)
      have HPX := Lib.hid (show w.heap.size < w9.heap.size from HX9.out.lt)
      have HIN := Lib.hid (usesF_in c.kind)
      rw [HUL.out] at HIN
      have HOP := Lib.hid hop
      have HL := Lib.hid hl
      have hul5 : ul.length ≤ 5 := by rw [← HUL.out]; exact usesF_len _
      clear HWA g0 hop hl
      generalize hq5 : w9.heap.size = q5 at *
      have HQ5 := Lib.hid hq5
      clear hq5
      go_loopg [23] (ul.length + 1) (fun g2 i wx => ∃ (k : Nat) (d : Cl) (B : Option Addr) (cb : Nat), i = .int .i64 k ∧ k ≤ ul.length ∧ ul.length - k < g2 ∧ Hid ((ul.take k).foldl (stepF c) (initF c) = d) ∧ Hid (ClBlk wx q5 d B cb) ∧ Hid (TrimRow w.heap.size wx B d.reqs q1 q5) ∧ Hid (Below q5 w9 wx))
      case atStart => exact ⟨0, initF c, none, 0, rfl, by omega, by omega, Lib.hid rfl, HDA, Lib.hid ⟨⟨fun k hk => absurd hk (by simp [initF]), fun a ha => by cases ha⟩, fun h => absurd h (by simp [initF])⟩, HBA⟩
      case round =>
        clear HDA HBA
        obtain ⟨k, d, B, cb, rfl, hk, hg2, HD, HDB, HI, HBW⟩ := hrel
        obtain ⟨g2, rfl⟩ : ∃ g2, gk = g2 + 1 := ⟨gk - 1, by omega⟩
        by_cases hlt : k < ul.length
        · obtain ⟨bx, ox, hB0, hbx, hcx⟩ := (HR3.out.below (HQ5.out ▸ HBW.out)) k hlt
          subst hB0
          obtain ⟨fn, hfn, hf10⟩ := HIN.out _ (List.getElem_mem hlt)
          have htk := List.take_succ_eq_append_getElem hlt
          rw [hfn] at htk hcx
          have HTK := Lib.hid htk
          have HX := Lib.hid (HX9.out.below (HQ5.out ▸ HBW.out))
          have hx := HX.out.at
          have g0 := hx.g0
          have g1 := hx.g1
          have g2' := hx.g2
          have g3 := hx.g3
          have g4 := hx.g4
          have g5 := hx.g5
          have g6 := hx.g6
          have g7 := hx.g7
          have g8 := hx.g8
          have g9 := hx.g9
          have gA := hx.gA
          have HG := Lib.hid (get_any fn hf10 c A cap HOP.out wr)
          clear htk hx
          go_wp2_with fail
          refine HG.out.mono ?_
          rintro e wy ⟨rfl, hby⟩
          have HS := Lib.hid (set_any fn hf10 (getF c fn) d B cb q5 wy (HDB.out.below hby))
          clear HG g0 g1 g2' g3 g4 g5 g6 g7 g8 g9 gA hcx
          go_wp2_with fail
          refine HS.out.mono ?_
          rintro e wz ⟨rfl, HD2, hz⟩
          have hq9 : q5 ≤ wr.heap.size := by rw [← HQ5.out]; exact HBW.out.size
          have hbz : Below q5 w9 wz ∧ TrimRow w.heap.size wz B (setF d (getF c fn) fn).reqs q1 q5 := by
            rw [setF_reqs]
            have h1 : Below q5 w9 wy := HBW.out.trans (hby.mono hq9)
            have h2 : TrimRow w.heap.size wy B d.reqs q1 q5 := HI.out.below hby
            rcases hz with rfl | ⟨j, v, rfl⟩
            · exact ⟨h1, h2⟩
            · exact ⟨h1.setCell (p := ⟨q5, j, none⟩) (Nat.le_refl _) v, h2.set ⟨q5, j, none⟩ (Or.inr rfl) v⟩
          obtain ⟨d2, hd2⟩ : ∃ x, x = setF d (getF c fn) fn := ⟨_, rfl⟩
          rw [← hd2] at HD2 hbz
          have HDB2 := Lib.hid HD2
          have HB2 := Lib.hid hbz.1
          have HI2 := Lib.hid hbz.2
          have HD2E := Lib.hid hd2
          clear HS HD2 hz hbz hd2 hby HI HDB HBW hq9 HX
          by_cases e8 : fn = 8
          · subst e8
            have hB9 : Below w9.heap.size w9 wz := HQ5.out ▸ HB2.out
            have g8 := (HX9.out.below hB9).at.g8
            have HC := Lib.hid (clone_any A cap c.reqs wz (HR9.out.below hB9) HL.out)
            have hz5 := HDB2.out.lt
            have hz1 := HQ1.out
            have HST := Lib.hid (show (ul.take (k + 1)).foldl (stepF c) (initF c) = { d2 with reqs := c.reqs } by
              rw [HTK.out, List.foldl_append, HD.out, HD2E.out]
              rfl)
            clear hB9
            go_wp2_with fail
            refine HC.out.mono ?_
            rintro e wv ⟨B2, cb2, rfl, hI2, hn2, hf2, hbv⟩
            have hwz : w.heap.size ≤ wz.heap.size := Nat.le_trans HB9.out.size (HQ5.out ▸ HB2.out).size
            have hdv := HDB2.out.below hbv
            have f8 := hdv.fz 8
            have o8 := hdv.at.g8
            have l0 := hdv.lt
            have HV := Lib.hid hdv
            have HIV := Lib.hid (show TrimRow w.heap.size wv B2 c.reqs q1 q5 from ⟨⟨hI2, fun a ha => by have := hn2 a ha; exact ⟨by omega, by omega⟩⟩, hf2.less hwz⟩)
            have HBV := Lib.hid (show Below q5 w9 wv from HB2.out.trans (hbv.mono (Nat.le_of_lt hz5)))
            clear hdv hI2 hn2 hf2 hwz hbv HC g8 hz5 hz1
            go_wp2_with fail
            go_roundg g2
            case measure => omega
            case rel => exact ⟨k + 1, { d2 with reqs := c.reqs }, B2, cb2, by go_num, by omega, by omega, HST, Lib.hid (show ClBlk _ q5 { d2 with reqs := c.reqs } B2 cb2 from CBlk.set HV.out 8 (.slice B2 c.reqs.length cb2)), Lib.hid (HIV.out.set ⟨q5, 8, none⟩ (Or.inr rfl) _), Lib.hid (HBV.out.setCell (p := ⟨q5, 8, none⟩) (Nat.le_refl _) _)⟩
          · have hne : ¬ (fn : Int) = 8 := by omega
            have HST := Lib.hid (show (ul.take (k + 1)).foldl (stepF c) (initF c) = d2 by
              rw [HTK.out, List.foldl_append, HD.out, HD2E.out]
              simp only [List.foldl_cons, List.foldl_nil, stepF]
              rw [if_neg hne]
              rfl)
            go_wp2_with fail
            go_roundg g2
            case measure => omega
            case rel => exact ⟨k + 1, d2, B, cb, by go_num, by omega, by omega, HST, HDB2, HI2, HB2⟩
        · obtain rfl : k = ul.length := by omega
          have HTD := Lib.hid (show trimF c = d by rw [HTF.out, ← HD.out, List.take_length])
          have HDC := Lib.hid (show CBlk wr q5 (clCells d B cb) from HDB.out)
          have hB9 : Below w9.heap.size w9 wr := HQ5.out ▸ HBW.out
          have HRW := Lib.hid (CBlk.below HRB9.out hB9)
          have HWW := Lib.hid (HB9.out.trans (hB9.mono HB9.out.size))
          clear hB9 HDB HBW HD
          have o0 := HDC.out.cell 0 (.int .u8 d.kind) rfl
          have o1 := HDC.out.cell 1 (.int .i64 d.comm) rfl
          have o2 := HDC.out.cell 2 (.int .i64 d.peer) rfl
          have o3 := HDC.out.cell 3 (.int .i64 d.tag) rfl
          have o4 := HDC.out.cell 4 (.int .i64 d.value) rfl
          have o5 := HDC.out.cell 5 (.int .i64 d.size) rfl
          have o6 := HDC.out.cell 6 (.int .i64 d.root) rfl
          have o7 := HDC.out.cell 7 (.int .u8 d.op) rfl
          have o8 := HDC.out.cell 8 (.slice B d.reqs.length cb) rfl
          have o9 := HDC.out.cell 9 (.int .i64 d.color) rfl
          have oA := HDC.out.cell 10 (.int .i64 d.key) rfl
          have f0 := HRW.out.fz 0
          have f1 := HRW.out.fz 1
          have f2 := HRW.out.fz 2
          have f3 := HRW.out.fz 3
          have f4 := HRW.out.fz 4
          have f5 := HRW.out.fz 5
          have f6 := HRW.out.fz 6
          have f7 := HRW.out.fz 7
          have f8 := HRW.out.fz 8
          have f9 := HRW.out.fz 9
          have fA := HRW.out.fz 10
          have rl := HRW.out.lt
          have r0 := HRW.out.cell 0 _ rfl
          have r1 := HRW.out.cell 1 _ rfl
          have r2 := HRW.out.cell 2 _ rfl
          have r3 := HRW.out.cell 3 _ rfl
          have r4 := HRW.out.cell 4 _ rfl
          have r5 := HRW.out.cell 5 _ rfl
          have r6 := HRW.out.cell 6 _ rfl
          have r7 := HRW.out.cell 7 _ rfl
          have r8 := HRW.out.cell 8 _ rfl
          have r9 := HRW.out.cell 9 _ rfl
          have rA := HRW.out.cell 10 _ rfl
          go_wp2_with fail
          have s0 : CBlk _ q1 #[.int .u8 d.kind, .int .i64 0, .int .i64 0, .int .i64 0, .int .i64 0, .int .i64 0, .int .i64 0, .int .u8 0, .slice none 0 0, .int .i64 0, .int .i64 0] := CBlk.set HRW.out 0 (.int .u8 d.kind : Value)
          have s1 : CBlk _ q1 #[.int .u8 d.kind, .int .i64 d.comm, .int .i64 0, .int .i64 0, .int .i64 0, .int .i64 0, .int .i64 0, .int .u8 0, .slice none 0 0, .int .i64 0, .int .i64 0] := CBlk.set s0 1 (.int .i64 d.comm : Value)
          have s2 : CBlk _ q1 #[.int .u8 d.kind, .int .i64 d.comm, .int .i64 d.peer, .int .i64 0, .int .i64 0, .int .i64 0, .int .i64 0, .int .u8 0, .slice none 0 0, .int .i64 0, .int .i64 0] := CBlk.set s1 2 (.int .i64 d.peer : Value)
          have s3 : CBlk _ q1 #[.int .u8 d.kind, .int .i64 d.comm, .int .i64 d.peer, .int .i64 d.tag, .int .i64 0, .int .i64 0, .int .i64 0, .int .u8 0, .slice none 0 0, .int .i64 0, .int .i64 0] := CBlk.set s2 3 (.int .i64 d.tag : Value)
          have s4 : CBlk _ q1 #[.int .u8 d.kind, .int .i64 d.comm, .int .i64 d.peer, .int .i64 d.tag, .int .i64 d.value, .int .i64 0, .int .i64 0, .int .u8 0, .slice none 0 0, .int .i64 0, .int .i64 0] := CBlk.set s3 4 (.int .i64 d.value : Value)
          have s5 : CBlk _ q1 #[.int .u8 d.kind, .int .i64 d.comm, .int .i64 d.peer, .int .i64 d.tag, .int .i64 d.value, .int .i64 d.size, .int .i64 0, .int .u8 0, .slice none 0 0, .int .i64 0, .int .i64 0] := CBlk.set s4 5 (.int .i64 d.size : Value)
          have s6 : CBlk _ q1 #[.int .u8 d.kind, .int .i64 d.comm, .int .i64 d.peer, .int .i64 d.tag, .int .i64 d.value, .int .i64 d.size, .int .i64 d.root, .int .u8 0, .slice none 0 0, .int .i64 0, .int .i64 0] := CBlk.set s5 6 (.int .i64 d.root : Value)
          have s7 : CBlk _ q1 #[.int .u8 d.kind, .int .i64 d.comm, .int .i64 d.peer, .int .i64 d.tag, .int .i64 d.value, .int .i64 d.size, .int .i64 d.root, .int .u8 d.op, .slice none 0 0, .int .i64 0, .int .i64 0] := CBlk.set s6 7 (.int .u8 d.op : Value)
          have s8 : CBlk _ q1 #[.int .u8 d.kind, .int .i64 d.comm, .int .i64 d.peer, .int .i64 d.tag, .int .i64 d.value, .int .i64 d.size, .int .i64 d.root, .int .u8 d.op, .slice B d.reqs.length cb, .int .i64 0, .int .i64 0] := CBlk.set s7 8 (.slice B d.reqs.length cb : Value)
          have s9 : CBlk _ q1 #[.int .u8 d.kind, .int .i64 d.comm, .int .i64 d.peer, .int .i64 d.tag, .int .i64 d.value, .int .i64 d.size, .int .i64 d.root, .int .u8 d.op, .slice B d.reqs.length cb, .int .i64 d.color, .int .i64 0] := CBlk.set s8 9 (.int .i64 d.color : Value)
          have sA : CBlk _ q1 #[.int .u8 d.kind, .int .i64 d.comm, .int .i64 d.peer, .int .i64 d.tag, .int .i64 d.value, .int .i64 d.size, .int .i64 d.root, .int .u8 d.op, .slice B d.reqs.length cb, .int .i64 d.color, .int .i64 d.key] := CBlk.set s9 10 (.int .i64 d.key : Value)
          have hZ := sA
          clear s0 s1 s2 s3 s4 s5 s6 s7 s8 s9
          have x0 := hZ.cell 0 (.int .u8 d.kind) rfl
          have x1 := hZ.cell 1 (.int .i64 d.comm) rfl
          have x2 := hZ.cell 2 (.int .i64 d.peer) rfl
          have x3 := hZ.cell 3 (.int .i64 d.tag) rfl
          have x4 := hZ.cell 4 (.int .i64 d.value) rfl
          have x5 := hZ.cell 5 (.int .i64 d.size) rfl
          have x6 := hZ.cell 6 (.int .i64 d.root) rfl
          have x7 := hZ.cell 7 (.int .u8 d.op) rfl
          have x8 := hZ.cell 8 (.slice B d.reqs.length cb) rfl
          have x9 := hZ.cell 9 (.int .i64 d.color) rfl
          have xA := hZ.cell 10 (.int .i64 d.key) rfl
          refine bodyPost_ret (v := .agg #[.int .u8 d.kind, .int .i64 d.comm, .int .i64 d.peer, .int .i64 d.tag, .int .i64 d.value, .int .i64 d.size, .int .i64 d.root, .int .u8 d.op, .slice B d.reqs.length cb, .int .i64 d.color, .int .i64 d.key]) (by simp [results, Tryz.results11, go_sem, x0, x1, x2, x3, x4, x5, x6, x7, x8, x9, xA]) rfl ?_
          exact ⟨B, cb, by rw [HTD.out], by rw [HTD.out]; exact ((TrimRow.set (TrimRow.set (TrimRow.set (TrimRow.set (TrimRow.set (TrimRow.set (TrimRow.set (TrimRow.set (TrimRow.set (TrimRow.set (TrimRow.set HI.out ⟨q1, 0, none⟩ (Or.inl rfl) _) ⟨q1, 1, none⟩ (Or.inl rfl) _) ⟨q1, 2, none⟩ (Or.inl rfl) _) ⟨q1, 3, none⟩ (Or.inl rfl) _) ⟨q1, 4, none⟩ (Or.inl rfl) _) ⟨q1, 5, none⟩ (Or.inl rfl) _) ⟨q1, 6, none⟩ (Or.inl rfl) _) ⟨q1, 7, none⟩ (Or.inl rfl) _) ⟨q1, 8, none⟩ (Or.inl rfl) _) ⟨q1, 9, none⟩ (Or.inl rfl) _) ⟨q1, 10, none⟩ (Or.inl rfl) _)).1.1, by rw [HTD.out]; exact ((TrimRow.set (TrimRow.set (TrimRow.set (TrimRow.set (TrimRow.set (TrimRow.set (TrimRow.set (TrimRow.set (TrimRow.set (TrimRow.set (TrimRow.set HI.out ⟨q1, 0, none⟩ (Or.inl rfl) _) ⟨q1, 1, none⟩ (Or.inl rfl) _) ⟨q1, 2, none⟩ (Or.inl rfl) _) ⟨q1, 3, none⟩ (Or.inl rfl) _) ⟨q1, 4, none⟩ (Or.inl rfl) _) ⟨q1, 5, none⟩ (Or.inl rfl) _) ⟨q1, 6, none⟩ (Or.inl rfl) _) ⟨q1, 7, none⟩ (Or.inl rfl) _) ⟨q1, 8, none⟩ (Or.inl rfl) _) ⟨q1, 9, none⟩ (Or.inl rfl) _) ⟨q1, 10, none⟩ (Or.inl rfl) _)).2, (Below.setCell (Below.setCell (Below.setCell (Below.setCell (Below.setCell (Below.setCell (Below.setCell (Below.setCell (Below.setCell (Below.setCell (Below.setCell HWW.out (p := ⟨q1, 0, none⟩) hb1 _) (p := ⟨q1, 1, none⟩) hb1 _) (p := ⟨q1, 2, none⟩) hb1 _) (p := ⟨q1, 3, none⟩) hb1 _) (p := ⟨q1, 4, none⟩) hb1 _) (p := ⟨q1, 5, none⟩) hb1 _) (p := ⟨q1, 6, none⟩) hb1 _) (p := ⟨q1, 7, none⟩) hb1 _) (p := ⟨q1, 8, none⟩) hb1 _) (p := ⟨q1, 9, none⟩) hb1 _) (p := ⟨q1, 10, none⟩) hb1 _)⟩
end Go.Proofs.YtgphigpbgiceiaaGreatDoor
