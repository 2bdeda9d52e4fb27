/- The walk of call.May. -/
import Derived.Test.YtgphigpbgiceiaaGreatDoorPk6
import Derived.Test.YtgphigpbgiceiaaGreatDoorClTrim
import Derived.Test.YtgphigpbgiceiaaGreatDoorSortedI
import Derived.Test.YtgphigpbgiceiaaGreatDoorRGrp
namespace Go.Proofs.YtgphigpbgiceiaaGreatDoor
open Go.RowKit Go.Sort
set_option linter.unusedVariables false
set_option linter.unusedSimpArgs false

theorem mayB_none (c : Cl) (g : List Int) (l : Option (List Int)) (h : l.isSome = false) : mayB c g l = false := by
  unfold mayB
  rw [h]
  rfl
theorem mayB_group (c : Cl) (g : List Int) (l : Option (List Int)) (h : groupB g = false) : mayB c g l = false := by
  unfold mayB
  rw [h, Bool.and_false, Bool.false_and]
theorem mayB_field (c : Cl) (g : List Int) (l : Option (List Int)) (k : Nat) (hk : k < (l.getD []).length) (h : fieldB c (g.length - 1) ((l.getD [])[k]) = false) : mayB c g l = false := by
  have : (l.getD []).all (fieldB c (g.length - 1)) = false := by
    rw [List.all_eq_false]
    exact ⟨_, List.getElem_mem hk, by rw [h]; simp⟩
  unfold mayB
  rw [this, Bool.and_false]
theorem mayB_all (c : Cl) (g : List Int) (l : Option (List Int)) (h0 : l.isSome = true) (h1 : groupB g = true) (h2 : (l.getD []).all (fieldB c (g.length - 1)) = true) : mayB c g l = true := by
  unfold mayB
  rw [h0, h1, h2]
  rfl
set_option maxHeartbeats 32000000 in
set_option maxRecDepth 100000 in
theorem may_any16 (c : Cl) (A : Option Addr) (cap : Nat) (s : ByteArray) (G : Option Addr) (gc : Nat) (gl : List Int) (w : World) (hR : IntRow w A c.reqs) (hl : c.reqs.length ≤ 1000) (hop : 0 ≤ c.op ∧ c.op ≤ 255) (hG : IntRow w G gl) (hgl : gl.length ≤ 1000) :
    Calls Tryz.prog 10 #[.agg (clCells c A cap), .agg #[.string s, .slice G gl.length gc]] w fun e w' => e = .returned (.bool (mayB c gl (usesF c.kind))) ∧ Below w.heap.size w w' := by
  have e1 : Below w.heap.size w (w.alloc (.cells (clCells c A cap) 24)) := (Below.refl _ _).alloc (Nat.le_refl _) _
  have f1 : ClBlk (w.alloc (.cells (clCells c A cap) 24)) w.heap.size c A cap := ClBlk.new
  obtain ⟨w1, hw1⟩ : ∃ y, y = w.alloc (.cells (clCells c A cap) 24) := ⟨_, rfl⟩
  rw [← hw1] at e1 f1
  have z1 : w1.heap.size = w.heap.size + 1 := by rw [hw1]; simp
  obtain ⟨w2, hw2⟩ : ∃ y, y = w1.alloc (.cells #[.string s, .slice G gl.length gc] 26) := ⟨_, rfl⟩
  have e2 : Below w1.heap.size w1 w2 := by rw [hw2]; exact (Below.refl _ _).alloc (Nat.le_refl _) _
  have f2 : BlkT w2 w1.heap.size 26 #[.string s, .slice G gl.length gc] := by rw [hw2]; exact heap_alloc_new _ _
  have HB := Lib.hid (e1.trans (e2.mono e1.size))
  have hX := f1.below e2
  have g0 := hX.at.g0
  have HX := Lib.hid hX
  rw [z1] at f2
  have HGB := Lib.hid f2
  have HR := Lib.hid (hR.below HB.out)
  have HGR := Lib.hid (hG.below HB.out)
  go_enter Tryz.func10, Tryz.ntmps10
  go_upto_region 1 with fail
  rw [← hw1, ← hw2]
  clear hw1 hw2 e1 e2 f1 f2 z1 hR hG hX
  refine wp_region_rel (fun w' => Below w2.heap.size w2 w') (goodBy [(14, .such UsesAt UsesAt.stay), (15, .is (.pointer (some ⟨w.heap.size, 0, none⟩))), (16, .is (.int .u8 c.kind)), (17, .such (UsesTold c.kind) (UsesTold.stay c.kind)), (13, .such (UsesTold c.kind) (UsesTold.stay c.kind)), (18, .such (UsesRow c.kind) (UsesRow.stay c.kind)), (19, .is (.bool (usesF c.kind).isSome)), (5, .such (UsesRow c.kind) (UsesRow.stay c.kind)), (6, .is (.bool (usesF c.kind).isSome))]) (by first | assumption | kernel_rfl) (by first | rfl | kernel_rfl) (Below.refl _ _).drew ?_ ?_
  · intro i o ho ρ wx hCx hout hcon hdep
    have x2 : ρ (.tmp 2) = .pointer (some ⟨w.heap.size, 0, none⟩) := hout 2 (by decide)
    have y0 := cell_later hCx g0
    have xc : ∀ c : Value, ρ (.const c) = c := fun c => hcon (.const c) (fun t h => by cases h)
    have xf : ∀ f : FuncId, ρ (.func f) = .func (.func f) #[] #[] := fun f => hcon (.func f) (fun t h => by cases h)
    match i, ho with
    | 0, ho =>
      simp only [List.getElem?_toArray, List.getElem?_cons_zero, List.getElem?_cons_succ, Option.some.injEq] at ho
      subst ho
      generalize hR : (fun (u : Value) (w' : World) => Below w2.heap.size w2 w' ∧ _) = R
      clear hout hcon hdep
      go_simp
      rw [stepOk_enter]
      refine (uses_any wx).mono ?_
      rintro e w2 ⟨r, a, b, c1, d, x, f, g, h, rfl, hI, hb2⟩
      subst hR
      exact ⟨_, rfl, hCx.trans (hb2.mono hCx.size), goodBy_stay hb2, fun d hd => (by obtain rfl : 14 = d := Option.some.inj hd; exact ⟨_, r, a, b, c1, _, x, f, g, h, rfl, hI⟩)⟩
    | 1, ho =>
      simp only [List.getElem?_toArray, List.getElem?_cons_zero, List.getElem?_cons_succ, Option.some.injEq] at ho
      subst ho
      generalize hR : (fun (u : Value) (w' : World) => Below w2.heap.size w2 w' ∧ _) = R
      clear hout hcon hdep
      go_simp
      subst hR
      exact ⟨hCx, fun s u h => h, fun d hd => (by obtain rfl : 15 = d := Option.some.inj hd; exact rfl)⟩
    | 2, ho =>
      simp only [List.getElem?_toArray, List.getElem?_cons_zero, List.getElem?_cons_succ, Option.some.injEq] at ho
      subst ho
      have d15 := hdep ⟨1, .data⟩ (by simp) rfl _ rfl 15 rfl
      change ρ (.tmp 15) = _ at d15
      generalize hR : (fun (u : Value) (w' : World) => Below w2.heap.size w2 w' ∧ _) = R
      clear hout hcon hdep
      go_simp
      subst hR
      exact ⟨hCx, fun s u h => h, fun d hd => (by obtain rfl : 16 = d := Option.some.inj hd; exact rfl)⟩
    | 3, ho =>
      simp only [List.getElem?_toArray, List.getElem?_cons_zero, List.getElem?_cons_succ, Option.some.injEq] at ho
      subst ho
      have d14 := hdep ⟨0, .data⟩ (by simp) rfl _ rfl 14 rfl
      change UsesAt (ρ (.tmp 14)) wx at d14
      have d16 := hdep ⟨2, .data⟩ (by simp) rfl _ rfl 16 rfl
      change ρ (.tmp 16) = _ at d16
      generalize hR : (fun (u : Value) (w' : World) => Below w2.heap.size w2 w' ∧ _) = R
      clear hout hcon hdep
      go_simp
      obtain ⟨t, ht, hU⟩ := look_told c.kind _ wx d14
      go_simp
      subst hR
      exact ⟨hCx, fun s u h => h, fun d hd => (by obtain rfl : 17 = d := Option.some.inj hd; exact hU)⟩
    | 4, ho =>
      simp only [List.getElem?_toArray, List.getElem?_cons_zero, List.getElem?_cons_succ, Option.some.injEq] at ho
      subst ho
      have d17 := hdep ⟨3, .data⟩ (by simp) rfl _ rfl 17 rfl
      change (UsesTold c.kind) (ρ (.tmp 17)) wx at d17
      generalize hR : (fun (u : Value) (w' : World) => Below w2.heap.size w2 w' ∧ _) = R
      clear hout hcon hdep
      go_simp
      subst hR
      exact ⟨hCx, fun s u h => h, fun d hd => (by obtain rfl : 13 = d := Option.some.inj hd; exact d17)⟩
    | 5, ho =>
      simp only [List.getElem?_toArray, List.getElem?_cons_zero, List.getElem?_cons_succ, Option.some.injEq] at ho
      subst ho
      have d13 := hdep ⟨4, .data⟩ (by simp) rfl _ rfl 13 rfl
      change (UsesTold c.kind) (ρ (.tmp 13)) wx at d13
      generalize hR : (fun (u : Value) (w' : World) => Below w2.heap.size w2 w' ∧ _) = R
      clear hout hcon hdep
      go_simp
      obtain ⟨t, ht, hU⟩ := d13
      go_simp
      subst hR
      exact ⟨hCx, fun s u h => h, fun d hd => (by obtain rfl : 18 = d := Option.some.inj hd; exact hU)⟩
    | 6, ho =>
      simp only [List.getElem?_toArray, List.getElem?_cons_zero, List.getElem?_cons_succ, Option.some.injEq] at ho
      subst ho
      have d13 := hdep ⟨4, .data⟩ (by simp) rfl _ rfl 13 rfl
      change (UsesTold c.kind) (ρ (.tmp 13)) wx at d13
      generalize hR : (fun (u : Value) (w' : World) => Below w2.heap.size w2 w' ∧ _) = R
      clear hout hcon hdep
      go_simp
      obtain ⟨t, ht, hU⟩ := d13
      go_simp
      subst hR
      exact ⟨hCx, fun s u h => h, fun d hd => (by obtain rfl : 19 = d := Option.some.inj hd; exact rfl)⟩
    | 7, ho =>
      simp only [List.getElem?_toArray, List.getElem?_cons_zero, List.getElem?_cons_succ, Option.some.injEq] at ho
      subst ho
      have d18 := hdep ⟨5, .data⟩ (by simp) rfl _ rfl 18 rfl
      change (UsesRow c.kind) (ρ (.tmp 18)) wx at d18
      generalize hR : (fun (u : Value) (w' : World) => Below w2.heap.size w2 w' ∧ _) = R
      clear hout hcon hdep
      go_simp
      subst hR
      exact ⟨hCx, fun s u h => h, fun d hd => (by obtain rfl : 5 = d := Option.some.inj hd; exact d18)⟩
    | 8, ho =>
      simp only [List.getElem?_toArray, List.getElem?_cons_zero, List.getElem?_cons_succ, Option.some.injEq] at ho
      subst ho
      have d19 := hdep ⟨6, .data⟩ (by simp) rfl _ rfl 19 rfl
      change ρ (.tmp 19) = _ at d19
      generalize hR : (fun (u : Value) (w' : World) => Below w2.heap.size w2 w' ∧ _) = R
      clear hout hcon hdep
      go_simp
      subst hR
      exact ⟨hCx, fun s u h => h, fun d hd => (by obtain rfl : 6 = d := Option.some.inj hd; exact rfl)⟩
    | n + 9, ho => exact absurd ho (by simp)
  · intro us w9 hC9 hg
    have q9 : us 6 = .bool (usesF c.kind).isSome := hg 8 _ rfl 6 rfl
    obtain ⟨B0, ul, hul, q3, hr3⟩ : UsesRow c.kind (us 5) w9 := hg 7 _ rfl 5 rfl
    generalize hds : dstsOf _ = ds
    obtain rfl : ds = [14, 15, 16, 17, 13, 18, 19, 5, 6] := hds.symm.trans rfl
    simp only [List.foldl_cons, List.foldl_nil, List.setIfInBounds_toArray, List.set_cons_zero, List.set_cons_succ]
    rw [q9]
    clear hg q9
    rw [q3]
    clear q3
    have HUL := Lib.hid hul
    have HR3 := Lib.hid hr3
    have HX9 := Lib.hid (HX.out.below hC9)
    have HGB9 := Lib.hid (HGB.out.below hC9)
    have HR9 := Lib.hid (HR.out.below hC9)
    have HGR9 := Lib.hid (HGR.out.below hC9)
    have HB9 := Lib.hid (HB.out.trans (hC9.mono HB.out.size))
    clear hul hr3 HX HGB HR HGR HB hC9 g0
    generalize w.heap.size + 1 = q1 at *
    have HOP := Lib.hid hop
    have HL := Lib.hid hl
    clear hop hl
    cases hk : (usesF c.kind).isSome
    case false =>
      have HF := Lib.hid (mayB_none c gl (usesF c.kind) hk)
      clear hk
      go_wp2_with fail
      go_ret
      exact ⟨ret_bool HF.out.symm, HB9.out⟩
    case true =>
      have HK := Lib.hid hk
      clear hk
      have b0 := HGB9.out.cell 0 _ rfl
      have b1 := HGB9.out.cell 1 _ rfl
      have HCG := Lib.hid (group_any s G gc gl w9 HGR9.out hgl)
      obtain ⟨gb, hgb⟩ : ∃ x, groupB gl = x := ⟨_, rfl⟩
      rw [hgb] at HCG
      go_upto_region 2 with fail
      cases gb
      case false =>
        have HF := Lib.hid (mayB_group c gl (usesF c.kind) hgb)
        clear hgb
        go_wp2_with fail
        refine HCG.out.mono ?_
        rintro e w10 ⟨rfl, hb10⟩
        have HB10 := Lib.hid (HB9.out.trans (hb10.mono HB9.out.size))
        clear hb10 b0 b1 HCG
        go_wp2_with fail
        go_ret
        exact ⟨ret_bool HF.out.symm, HB10.out⟩
      case true =>
        have HGT := Lib.hid hgb
        clear hgb
        go_wp2_with fail
        refine HCG.out.mono ?_
        rintro e w10 ⟨rfl, hb10⟩
        have HXA := Lib.hid (HX9.out.below hb10)
        have HGBA := Lib.hid (HGB9.out.below hb10)
        have HRA := Lib.hid (HR9.out.below hb10)
        have HR3A := Lib.hid (HR3.out.below hb10)
        have HB10 := Lib.hid (HB9.out.trans (hb10.mono HB9.out.size))
        clear hb10 b0 b1 HCG HX9 HGB9 HR9 HGR9 HB9 HR3
        have g0 := HXA.out.at.g0
        have b1 := HGBA.out.cell 1 _ rfl
        have HIN := Lib.hid (usesF_in c.kind)
        rw [HUL.out] at HIN
        have hul5 : ul.length ≤ 5 := by rw [← HUL.out]; exact usesF_len _
        have HOC := Lib.hid (fun w => open_any c.kind w)
        have hgpos : 1 ≤ gl.length := by
          have h := HGT.out
          unfold groupB at h
          simp only [Bool.and_eq_true, decide_eq_true_iff] at h
          exact h.2
        have hwl : IntKind.i64.wrap ((gl.length : Int) - 1) = (gl.length : Int) - 1 := IntWalk.i64_in _ (by omega)
        have HFB := Lib.hid (fun k hk (h : fieldB c (gl.length - 1) (((usesF c.kind).getD [])[k]) = false) => mayB_field c gl (usesF c.kind) k hk h)
        have HFA := Lib.hid (mayB_all c gl (usesF c.kind) HK.out HGT.out)
        rw [HUL.out] at HFA HFB
        obtain ⟨last, hlast⟩ : ∃ x : Int, (gl.length : Int) - 1 = x := ⟨_, rfl⟩
        obtain ⟨anyv, hany⟩ : ∃ x, anyK c.kind = x := ⟨_, rfl⟩
        obtain ⟨ok, hok⟩ : ∃ x, openK c.kind = x := ⟨_, rfl⟩
        have HANY := Lib.hid hany
        unfold anyK at hany
        rw [hok] at hany HOC
        rw [hlast] at hwl HFB HFA
        have HLAST := Lib.hid hlast
        have HOKK := Lib.hid hok
        clear hok
        cases ok
        all_goals
          simp only [if_true, if_false, Bool.false_eq_true] at hany
          obtain rfl := hany
          go_wp2_with (with_reducible refine (HOC.out _).mono ?_; rintro e w10 ⟨rfl, rfl⟩)
          clear b1 hlast hwl HOC g0
          go_loopg [37] (ul.length + 1) (fun g2 i wx => ∃ k : Nat, i = .int .i64 k ∧ k ≤ ul.length ∧ ul.length - k < g2 ∧ Hid ((ul.take k).all (fieldB c last) = true) ∧ Hid (Below w10.heap.size w10 wx))
          case atStart => exact ⟨0, rfl, by omega, by omega, Lib.hid rfl, Lib.hid (Below.refl _ _)⟩
          case round =>
            obtain ⟨k, rfl, hk, hg2, HALL, HBX⟩ := hrel
            obtain ⟨g, rfl⟩ : ∃ g, gk = g + 1 := ⟨gk - 1, by omega⟩
            have HBB := Lib.hid (HB10.out.trans (HBX.out.mono HB10.out.size))
            by_cases hlt : k < ul.length
            · obtain ⟨b, o, rfl, hbl, c0⟩ := (HR3A.out.below HBX.out) k hlt
              have HXW := Lib.hid (HXA.out.below HBX.out)
              have HRW := Lib.hid (HRA.out.below HBX.out)
              have x1 := HXW.out.at.g1
              have x2 := HXW.out.at.g2
              have x3 := HXW.out.at.g3
              have x5 := HXW.out.at.g5
              have x6 := HXW.out.at.g6
              have x7 := HXW.out.at.g7
              have x8 := HXW.out.at.g8
              have HFF := Lib.hid (HFB.out k hlt)
              have HTT := Lib.hid (fun (h : fieldB c last ul[k] = true) => show (ul.take (k + 1)).all (fieldB c last) = true by
                rw [List.take_succ_eq_append_getElem hlt, List.all_append, HALL.out]
                simp [h])
              have HFN := Lib.hid (HIN.out ul[k] (List.getElem_mem hlt))
              clear hbl
              generalize ul[k] = f at *
              have hfc : f = 0 ∨ f = 1 ∨ f = 2 ∨ f = 3 ∨ f = 4 ∨ f = 5 ∨ f = 6 ∨ f = 7 ∨ f = 8 ∨ f = 9 := by
                obtain ⟨n, rfl, hn⟩ := HFN.out
                omega
              clear HFN
              rcases hfc with rfl | rfl | rfl | rfl | rfl | rfl | rfl | rfl | rfl | rfl
              · have HV := Lib.hid (fun w => in_any c.comm 0 31 w)
                obtain ⟨x, hx⟩ : ∃ x, fieldB c last 0 = x := ⟨_, rfl⟩
                have he : fieldB c last 0 = inC c.comm 0 31 := by simp [fieldB]
                rw [← he, hx] at HV
                clear he
                cases x
                case false =>
                  have HF := Lib.hid (HFF.out hx)
                  clear hx
                  go_wp2_with (with_reducible refine (HV.out _).mono ?_; rintro e wr ⟨rfl, rfl⟩)
                  go_ret
                  exact ⟨ret_bool HF.out.symm, HBB.out⟩
                case true =>
                  have HT := Lib.hid (HTT.out hx)
                  clear hx
                  go_wp2_with (with_reducible refine (HV.out _).mono ?_; rintro e wr ⟨rfl, rfl⟩)
                  go_roundg g
                  case measure => omega
                  case rel => exact ⟨k + 1, by go_num, by omega, by omega, HT, HBX⟩
              · have HV := Lib.hid (fun w => in_any c.peer (anyK c.kind) last w)
                rw [HANY.out] at HV
                obtain ⟨x, hx⟩ : ∃ x, fieldB c last 1 = x := ⟨_, rfl⟩
                have he : fieldB c last 1 = inC c.peer (anyK c.kind) last := by simp [fieldB]
                rw [HANY.out] at he
                rw [← he, hx] at HV
                clear he
                cases x
                case false =>
                  have HF := Lib.hid (HFF.out hx)
                  clear hx
                  go_wp2_with (with_reducible refine (HV.out _).mono ?_; rintro e wr ⟨rfl, rfl⟩)
                  go_ret
                  exact ⟨ret_bool HF.out.symm, HBB.out⟩
                case true =>
                  have HT := Lib.hid (HTT.out hx)
                  clear hx
                  go_wp2_with (with_reducible refine (HV.out _).mono ?_; rintro e wr ⟨rfl, rfl⟩)
                  go_roundg g
                  case measure => omega
                  case rel => exact ⟨k + 1, by go_num, by omega, by omega, HT, HBX⟩
              · have HV := Lib.hid (fun w => in_any c.tag (anyK c.kind) 32767 w)
                rw [HANY.out] at HV
                obtain ⟨x, hx⟩ : ∃ x, fieldB c last 2 = x := ⟨_, rfl⟩
                have he : fieldB c last 2 = inC c.tag (anyK c.kind) 32767 := by simp [fieldB]
                rw [HANY.out] at he
                rw [← he, hx] at HV
                clear he
                cases x
                case false =>
                  have HF := Lib.hid (HFF.out hx)
                  clear hx
                  go_wp2_with (with_reducible refine (HV.out _).mono ?_; rintro e wr ⟨rfl, rfl⟩)
                  go_ret
                  exact ⟨ret_bool HF.out.symm, HBB.out⟩
                case true =>
                  have HT := Lib.hid (HTT.out hx)
                  clear hx
                  go_wp2_with (with_reducible refine (HV.out _).mono ?_; rintro e wr ⟨rfl, rfl⟩)
                  go_roundg g
                  case measure => omega
                  case rel => exact ⟨k + 1, by go_num, by omega, by omega, HT, HBX⟩
              · have HT := Lib.hid (HTT.out (by simp [fieldB]))
                go_wp2_with fail
                go_roundg g
                case measure => omega
                case rel => exact ⟨k + 1, by go_num, by omega, by omega, HT, HBX⟩
              · have HV := Lib.hid (fun w => in_any c.size 1 64 w)
                obtain ⟨x, hx⟩ : ∃ x, fieldB c last 4 = x := ⟨_, rfl⟩
                have he : fieldB c last 4 = inC c.size 1 64 := by simp [fieldB]
                rw [← he, hx] at HV
                clear he
                cases x
                case false =>
                  have HF := Lib.hid (HFF.out hx)
                  clear hx
                  go_wp2_with (with_reducible refine (HV.out _).mono ?_; rintro e wr ⟨rfl, rfl⟩)
                  go_ret
                  exact ⟨ret_bool HF.out.symm, HBB.out⟩
                case true =>
                  have HT := Lib.hid (HTT.out hx)
                  clear hx
                  go_wp2_with (with_reducible refine (HV.out _).mono ?_; rintro e wr ⟨rfl, rfl⟩)
                  go_roundg g
                  case measure => omega
                  case rel => exact ⟨k + 1, by go_num, by omega, by omega, HT, HBX⟩
              · have HV := Lib.hid (fun w => in_any c.root 0 last w)
                obtain ⟨x, hx⟩ : ∃ x, fieldB c last 5 = x := ⟨_, rfl⟩
                have he : fieldB c last 5 = inC c.root 0 last := by simp [fieldB]
                rw [← he, hx] at HV
                clear he
                cases x
                case false =>
                  have HF := Lib.hid (HFF.out hx)
                  clear hx
                  go_wp2_with (with_reducible refine (HV.out _).mono ?_; rintro e wr ⟨rfl, rfl⟩)
                  go_ret
                  exact ⟨ret_bool HF.out.symm, HBB.out⟩
                case true =>
                  have HT := Lib.hid (HTT.out hx)
                  clear hx
                  go_wp2_with (with_reducible refine (HV.out _).mono ?_; rintro e wr ⟨rfl, rfl⟩)
                  go_roundg g
                  case measure => omega
                  case rel => exact ⟨k + 1, by go_num, by omega, by omega, HT, HBX⟩
              · have HT := Lib.hid (HTT.out (by simp [fieldB]))
                go_wp2_with fail
                go_roundg g
                case measure => omega
                case rel => exact ⟨k + 1, by go_num, by omega, by omega, HT, HBX⟩
              · have HT := Lib.hid (HTT.out (by simp [fieldB]))
                go_wp2_with fail
                go_roundg g
                case measure => omega
                case rel => exact ⟨k + 1, by go_num, by omega, by omega, HT, HBX⟩
              · have he : fieldB c last 8 = (listedB c && okReqs c.reqs) := by simp [fieldB]
                have HE := Lib.hid he
                clear he
                have HVA := Lib.hid (fun w => values_any A c.reqs.length cap w)
                go_upto_region 26 with fail
                go_wp2_with fail
                refine (HVA.out _).mono ?_
                rintro e wa ⟨rfl, hwa⟩
                have ha := wr.heap.size
                have BA : Below wr.heap.size wr wa := by rw [hwa]; exact (Below.refl _ _).alloc (Nat.le_refl _) _
                have FA : BlkT wa wr.heap.size 22 #[.slice A c.reqs.length cap] := by rw [hwa]; exact heap_alloc_new _ _
                have HSO := Lib.hid (sorted_any wr.heap.size wr.heap.size cap A c.reqs HL.out wa FA.lt BA.size (FA.cell 0 _ rfl) (HRW.out.low.below BA))
                have HBA := Lib.hid BA
                clear BA FA hwa ha x1 x2 x3 x5 x6 x7 x8 HVA
                go_wp2_with fail
                refine HSO.out.mono ?_
                rintro e wb ⟨SB, sc, rfl, hso, hbb⟩
                have HSR := Lib.hid hso
                have HBW := Lib.hid (HBA.out.trans (hbb.mono HBA.out.size))
                clear hso hbb HSO
                have HXB := Lib.hid ((HXW.out.below HBW.out))
                have y0 := HXB.out.at.g0
                have y1 := HXB.out.at.g1
                have y2 := HXB.out.at.g2
                have y3 := HXB.out.at.g3
                have y4 := HXB.out.at.g4
                have y5 := HXB.out.at.g5
                have y6 := HXB.out.at.g6
                have y7 := HXB.out.at.g7
                have y8 := HXB.out.at.g8
                have y9 := HXB.out.at.g9
                have yA := HXB.out.at.gA
                have HLI := Lib.hid (listed_any c A cap wb)
                obtain ⟨li, hli⟩ : ∃ x, listedB c = x := ⟨_, rfl⟩
                rw [hli] at HLI HE
                have HLI2 := Lib.hid hli
                clear hli
                cases li
                case false =>
                  have HF := Lib.hid (HFF.out (by rw [HE.out]; rfl))
                  go_upto_region 27 with fail
                  go_wp2_with fail
                  refine HLI.out.mono ?_
                  rintro e wc ⟨rfl, hbc⟩
                  have HBC := Lib.hid (HBB.out.trans ((HBW.out.trans (hbc.mono HBW.out.size)).mono HBB.out.size))
                  clear hbc y0 y1 y2 y3 y4 y5 y6 y7 y8 y9 yA HLI
                  go_wp2_with fail
                  go_ret
                  exact ⟨ret_bool HF.out.symm, HBC.out⟩
                case true =>
                  have hpos : 0 < c.reqs.length := by
                    have h := HLI2.out
                    unfold listedB at h
                    split at h
                    · simp at h; omega
                    · simp at h; omega
                  have HE2 := Lib.hid (show fieldB c last 8 = okReqs c.reqs by rw [HE.out, Bool.true_and])
                  have HSL := Lib.hid (sortI_len c.reqs)
                  have HOS := Lib.hid (okReqs_sorted c.reqs hpos)
                  obtain ⟨sg, cur, rfl, hbase, hgb, r1, r2, r3, r4⟩ := own_block HSR.out hpos
                  have hcell : ∀ j (hj : j < (sortI c.reqs).length), ∀ wz, Below wb.heap.size wb wz → wz.cell? ⟨sg, j, none⟩ = some (.int .i64 (sortI c.reqs)[j]) := fun j hj wz hz => by
                    have h1 : (cur.toList.take c.reqs.length)[j]? = ((sortI c.reqs).map (Value.int .i64))[j]? := by rw [r4]
                    rw [List.getElem?_take_of_lt (by have := HSL.out; omega)] at h1
                    have h2 : wb.cell? ⟨sg, j, none⟩ = some (.int .i64 (sortI c.reqs)[j]) := by
                      rw [Lib.cell_of_heap hgb, ← Array.getElem?_toList, h1]
                      simp [List.getElem?_eq_getElem hj]
                    exact cell_later hz h2
                  have HSG := Lib.hid (show IntRow wb (some ⟨sg, 0, none⟩) (sortI c.reqs) from fun j hj => ⟨sg, 0, rfl, (Array.getElem?_eq_some_iff.1 hgb).1, by rw [Nat.zero_add]; exact hcell j hj wb (Below.refl _ _)⟩)
                  have HC0 := Lib.hid (hcell 0 (by have := HSL.out; omega))
                  have HCL := Lib.hid (hcell (c.reqs.length - 1) (by have := HSL.out; omega))
                  clear hbase hgb r1 r2 r3 r4 hcell HSR HRW HFB HFA HRA HR3A HIN
                  have HC1 := Lib.hid (fun wz (hz : Below wb.heap.size wb wz) => HSL.out ▸ clone_own (some ⟨sg, 0, none⟩) sc (sortI c.reqs) wz (HSG.out.below hz) (by have := HL.out; have := HSL.out; omega) (by have := HSL.out; omega))
                  have HC2 := Lib.hid (fun B cb wy wz (hz : Below wy.heap.size wy wz) (h : wz.ownsRow wy.heap.size 3 1 (.slice B (sortI c.reqs).length cb) (sortI c.reqs).length ((sortI c.reqs).map (Value.int .i64))) => compact_own B cb wy.heap.size (sortI c.reqs) wz hz.size (by have := HL.out; have := HSL.out; omega) (by have := HSL.out; omega) h)
                  rw [HSL.out] at HC2
                  generalize (sortI c.reqs)[c.reqs.length - 1]'(by have := HSL.out; omega) = sl at *
                  generalize (sortI c.reqs)[0]'(by have := HSL.out; omega) = s0 at *
                  generalize (Lib.compact (sortI c.reqs)).length = cl at *
                  have hwl2 : IntKind.i64.wrap ((c.reqs.length : Int) - 1) = (c.reqs.length : Int) - 1 := IntWalk.i64_in _ (by have := HL.out; omega)
                  have hle : (0 : Int) ≤ (c.reqs.length : Int) - 1 := by omega
                  have hln : ((c.reqs.length : Int) - 1).toNat = c.reqs.length - 1 := by omega
                  have hltn : (c.reqs.length : Int) - 1 < c.reqs.length := by omega
                  go_upto_region 27 with fail
                  go_wp2_with fail
                  refine HLI.out.mono ?_
                  rintro e wc ⟨rfl, hbc⟩
                  have HBC := Lib.hid hbc
                  clear hbc y0 y1 y2 y3 y4 y5 y6 y7 y8 y9 yA HLI
                  go_wp2_with fail
                  refine (HC1.out _ HBC.out).mono ?_
                  rintro e wd ⟨CB, cc, rfl, hcr, hbd⟩
                  rw [HSL.out]
                  have HCR := Lib.hid (HC2.out CB cc wc wd hbd (by simpa [HSL.out] using hcr))
                  have HBD := Lib.hid hbd
                  clear hcr hbd HC1 HC2
                  go_wp2_with fail
                  refine HCR.out.mono ?_
                  rintro e we ⟨DB, dc, rfl, hbe⟩
                  have HBE := Lib.hid (HBC.out.trans ((HBD.out.trans hbe).mono HBC.out.size))
                  have HBF := Lib.hid (HBW.out.trans (HBE.out.mono HBW.out.size))
                  have HBB2 := Lib.hid (HBB.out.trans (HBF.out.mono HBB.out.size))
                  have HBX2 := Lib.hid (HBX.out.trans (HBF.out.mono HBX.out.size))
                  have d0 := HC0.out we HBE.out
                  have dl := HCL.out we HBE.out
                  clear hbe HCR HBD HC0 HCL
                  by_cases hcl : cl = c.reqs.length
                  · obtain rfl := hcl
                    by_cases h0 : 0 ≤ s0
                    · have hd0 : decide (0 ≤ s0) = true := by simpa using h0
                      by_cases h2 : sl < 256
                      · have hd2 : decide (sl < 256) = true := by simpa using h2
                        have HT := Lib.hid (HTT.out (by rw [HE2.out, HOS.out]; simp; omega))
                        clear h0 h2
                        go_wp2_with fail
                        go_roundg g
                        case measure => omega
                        case rel => exact ⟨k + 1, by go_num, by omega, by omega, HT, HBX2⟩
                      · have hd2 : decide (sl < 256) = false := by simpa using h2
                        have HF := Lib.hid (HFF.out (by rw [HE2.out, HOS.out, hd2, Bool.and_false]))
                        clear h0 h2
                        go_wp2_with fail
                        go_ret
                        exact ⟨ret_bool HF.out.symm, HBB2.out⟩
                    · have hd0 : decide (0 ≤ s0) = false := by simpa using h0
                      have HF := Lib.hid (HFF.out (by rw [HE2.out, HOS.out]; simp; omega))
                      clear h0
                      go_wp2_with fail
                      go_ret
                      exact ⟨ret_bool HF.out.symm, HBB2.out⟩
                  · have hd0 : (cl == c.reqs.length) = false := by simpa using hcl
                    have hd1 : ((cl : Int) == (c.reqs.length : Int)) = false := by simp; omega
                    have HF := Lib.hid (HFF.out (by rw [HE2.out, HOS.out, decide_eq_false hcl, Bool.false_and, Bool.false_and]))
                    clear hcl
                    go_wp2_with fail
                    go_ret
                    exact ⟨ret_bool HF.out.symm, HBB2.out⟩
              · obtain ⟨x, hx⟩ : ∃ x, fieldB c last 9 = x := ⟨_, rfl⟩
                have he : decide (c.op ≤ 2) = x := by rw [← hx]; simp [fieldB]
                cases x
                case false =>
                  have HF := Lib.hid (HFF.out hx)
                  clear hx
                  go_wp2_with fail
                  go_ret
                  exact ⟨ret_bool HF.out.symm, HBB.out⟩
                case true =>
                  have HT := Lib.hid (HTT.out hx)
                  clear hx
                  go_wp2_with fail
                  go_roundg g
                  case measure => omega
                  case rel => exact ⟨k + 1, by go_num, by omega, by omega, HT, HBX⟩
            · obtain rfl : k = ul.length := by omega
              have HT := Lib.hid (HFA.out (by rw [← HALL.out, List.take_length]))
              go_wp2_with fail
              go_ret
              exact ⟨ret_bool HT.out.symm, HBB.out⟩
end Go.Proofs.YtgphigpbgiceiaaGreatDoor
