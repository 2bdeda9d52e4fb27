/- The walks of dispatcherref16.Number, Told. -/
import Derived.Test.YtgphigpbgiceiaaDoorCtTold
import Derived.Test.YtgphigpbgiceiaaDoorDig
namespace Go.Proofs.YtgphigpbgiceiaaDoor
open Go.RowKit Go.Sort
set_option linter.unusedVariables false
set_option linter.unusedSimpArgs false

set_option maxRecDepth 100000 in
theorem number16_any (n : Int) (hn : In64 n) (w : World) : Calls Tryd.prog 15 #[.int .i64 n] w fun e w' => e = .returned (.string (itoaB n)) ∧ Below w.heap.size w w' := by
  have HN := Lib.hid (number_any n hn.1 hn.2 w)
  have hw : IntKind.i64.wrap n = n := IntWalk.i64_in n hn
  go_enter Tryd.func15, Tryd.ntmps15
  go_wp2_with fail
  refine HN.out.mono ?_
  rintro e w2 ⟨rfl, hb2⟩
  have HB2 := Lib.hid hb2
  clear hb2
  go_wp2_with fail
  go_ret
  exact ⟨rfl, HB2.out⟩
theorem bytes_list {a b : ByteArray} (h : a.data.toList = b.data.toList) : a = b := ByteArray.ext (Array.toList_inj.1 h)
theorem arr_take (l : List Int) (k : Nat) (hk : k < l.length) : arrText (l.take (k + 1)) = arrText (l.take k) ++ 32 :: Lib.itoa l[k] := by
  unfold arrText
  rw [List.take_succ_eq_append_getElem hk, List.flatMap_append, List.flatMap_cons, List.flatMap_nil, List.append_nil]

set_option maxHeartbeats 16000000 in
set_option maxRecDepth 100000 in
theorem rtold16_any (k : Int) (hk0 : 0 ≤ k) (hk1 : k ≤ 255) (flag : Bool) (v p t r i c : Int) (hv : In64 v) (hp : In64 p) (ht : In64 t) (hr : In64 r) (hi : In64 i) (hc : In64 c) (l : List Int) (A : Option Addr) (cap : Nat) (w : World) (hR : IntRow w A l) (hl : l.length ≤ 100) (hn : ∀ n ∈ l, In64 n) :
    Calls Tryd.prog 6 #[.int .u8 k, .agg #[.bool flag, .int .i64 v, .int .i64 p, .int .i64 t, .int .i64 r, .int .i64 i, .int .i64 c, .slice A l.length cap]] w fun e w' => e = .returned (.string ⟨(toldF k flag v p t r i c l).toArray⟩) ∧ Below w.heap.size w w' := by
  have hb1 : Below w.heap.size w (w.alloc (.cells #[.bool flag, .int .i64 v, .int .i64 p, .int .i64 t, .int .i64 r, .int .i64 i, .int .i64 c, .slice A l.length cap] 24)) := (Below.refl _ _).alloc (Nat.le_refl _) _
  have hX1 : ResAt (w.alloc (.cells #[.bool flag, .int .i64 v, .int .i64 p, .int .i64 t, .int .i64 r, .int .i64 i, .int .i64 c, .slice A l.length cap] 24)) w.heap.size flag v p t r i c (.slice A l.length cap) := ResAt.new
  have HV := Lib.hid hv
  have HP := Lib.hid hp
  have HTG := Lib.hid ht
  have HRQ := Lib.hid hr
  have HI := Lib.hid hi
  have HCM := Lib.hid hc
  have HN := Lib.hid hn
  have HR := Lib.hid (hR.below hb1)
  have HB := Lib.hid hb1
  have HX := Lib.hid hX1
  clear hv hp ht hr hi hc hn hR hb1 hX1
  go_enter Tryd.func6, Tryd.ntmps6
  go_upto_region 2 with fail
  generalize hw1 : w.alloc (.cells #[.bool flag, .int .i64 v, .int .i64 p, .int .i64 t, .int .i64 r, .int .i64 i, .int .i64 c, .slice A l.length cap] 24) = w1 at *
  generalize hbx : w.heap.size = bx at *
  obtain ⟨sf, hsf⟩ : ∃ sf : ByteArray, sf = if flag = true then (⟨#[49]⟩ : ByteArray) else ⟨#[48]⟩ := ⟨_, rfl⟩
  have g0 := HX.out.g0
  go_upto_if 11 with fail
  go_cut [5] from 10 (fun s5 wx => s5 = .string sf ∧ wx = w1)
  case first =>
    cases flag
    all_goals
      go_wp2_with fail
      go_meet
      case rel => exact ⟨by rw [hsf]; rfl, rfl⟩
  case rest =>
    obtain ⟨rfl, rfl⟩ := hcut
    have hlsf : sf.size = 1 := by
      rw [hsf]
      split <;> rfl
    have HSF := Lib.hid (show sf.data.toList = if flag = true then [49] else [48] by
      rw [hsf]
      split <;> rfl)
    clear g0 hsf
    have g1 := HX.out.g1
    have HC0 := Lib.hid (number_any v HV.out.1 HV.out.2 wc)
    have hsv : (⟨(Lib.itoa v).toArray⟩ : ByteArray) = itoaB v := rfl
    have hlv : (itoaB v).size ≤ 21 := Lib.itoa_length_le v HV.out.1 HV.out.2
    rw [hsv] at HC0
    clear hsv
    go_wp2_with fail
    refine HC0.out.mono ?_
    rintro e wd ⟨rfl, hbd⟩
    have HX2 := Lib.hid (HX.out.below hbd)
    have HR2 := Lib.hid (HR.out.below hbd)
    have HB2 := Lib.hid (show Below w.heap.size w wd from (hbx ▸ HB.out).trans (hbd.mono (hbx ▸ HB.out.size)))
    clear hbd g1 HX HR HB HC0
    obtain ⟨sv, hsv⟩ : ∃ sv : ByteArray, (⟨#[118, 97, 108, 117, 101, 32]⟩ : ByteArray) ++ itoaB v = sv := ⟨_, rfl⟩
    have hlsv : sv.size ≤ 40 := by rw [← hsv, ByteArray.size_append]; exact Nat.le_trans (Nat.add_le_add_left hlv _) (by decide)
    have E0 : ∀ W, (Op.stringOp .add ⟨#[118, 97, 108, 117, 101, 32]⟩ (itoaB v)).run Tryd.prog W = .ok (.string sv) W := fun W => by rw [run_string_add_sum _ _ _ (Nat.le_trans (Nat.add_le_add_left hlv _) (by decide)), hsv]
    have HSV := Lib.hid (show sv.data.toList = [118, 97, 108, 117, 101, 32] ++ Lib.itoa v by
      rw [← hsv]
      simp [itoaB])
    obtain ⟨sp, hsp⟩ : ∃ sp : ByteArray, itoaB p = sp := ⟨_, rfl⟩
    obtain ⟨st, hst⟩ : ∃ st : ByteArray, itoaB t = st := ⟨_, rfl⟩
    have hlsp : sp.size ≤ 21 := by rw [← hsp]; exact Lib.itoa_length_le p HP.out.1 HP.out.2
    have hlst : st.size ≤ 21 := by rw [← hst]; exact Lib.itoa_length_le t HTG.out.1 HTG.out.2
    have HC1 := Lib.hid (fun (wx : World) => hsp ▸ number16_any p HP.out wx)
    have HC2 := Lib.hid (fun (wx : World) => hst ▸ number16_any t HTG.out wx)
    obtain ⟨t1, ht1⟩ : ∃ t1 : ByteArray, (⟨#[112, 101, 101, 114, 32]⟩ : ByteArray) ++ sp = t1 := ⟨_, rfl⟩
    obtain ⟨t2, ht2⟩ : ∃ t2 : ByteArray, t1 ++ (⟨#[32, 116, 97, 103, 32]⟩ : ByteArray) = t2 := ⟨_, rfl⟩
    obtain ⟨t3, ht3⟩ : ∃ t3 : ByteArray, t2 ++ st = t3 := ⟨_, rfl⟩
    have l1 : t1.size ≤ 40 := by rw [← ht1, ByteArray.size_append]; exact Nat.le_trans (Nat.add_le_add_left hlsp _) (by decide)
    have l2 : t2.size ≤ 60 := by rw [← ht2, ByteArray.size_append]; exact Nat.le_trans (Nat.add_le_add_right l1 _) (by decide)
    have l3 : t3.size ≤ 100 := by rw [← ht3, ByteArray.size_append]; omega
    have E1 : ∀ W, (Op.stringOp .add ⟨#[112, 101, 101, 114, 32]⟩ sp).run Tryd.prog W = .ok (.string t1) W := fun W => by rw [run_string_add_sum _ _ _ (Nat.le_trans (Nat.add_le_add_left hlsp _) (by decide)), ht1]
    have E2 : ∀ W, (Op.stringOp .add t1 ⟨#[32, 116, 97, 103, 32]⟩).run Tryd.prog W = .ok (.string t2) W := fun W => by rw [run_string_add_sum _ _ _ (Nat.le_trans (Nat.add_le_add_right l1 _) (by decide)), ht2]
    have E3 : ∀ W, (Op.stringOp .add t2 st).run Tryd.prog W = .ok (.string t3) W := fun W => by rw [run_string_add_sum _ _ _ (by omega), ht3]
    have HT3 := Lib.hid (show t3.data.toList = [112, 101, 101, 114, 32] ++ Lib.itoa p ++ [32, 116, 97, 103, 32] ++ Lib.itoa t by
      rw [← ht3, ← ht2, ← ht1, ← hsp, ← hst]
      simp [itoaB])
    clear ht1 ht2 ht3 hsv hsp hst l1 l2 hlsp hlst hlv
    have q2 := HX2.out.g2
    have q3 := HX2.out.g3
    go_upto_region 5 with fail
    go_cut [7] from 10 (fun s7 wx => s7 = .string t3 ∧ Below wd.heap.size wd wx)
    case first =>
      refine wp_region_rel (fun w' => Below wd.heap.size wd w') (goodBy [(16, .is (.pointer (some ⟨bx, 2, none⟩))), (17, .is (.int .i64 p)), (18, .is (.string sp)), (19, .is (.string t1)), (20, .is (.string t2)), (21, .is (.pointer (some ⟨bx, 3, none⟩))), (22, .is (.int .i64 t)), (23, .is (.string st)), (24, .is (.string t3)), (7, .is (.string t3))]) (by first | assumption | kernel_rfl) (by first | rfl | kernel_rfl) (Below.refl _ _).drew ?_ ?_
      · intro i o ho ρ wx hCx hout hcon hdep
        have x3 : ρ (.tmp 3) = .pointer (some ⟨bx, 0, none⟩) := hout 3 (by decide)
        have y2 := cell_later hCx q2
        have y3 := cell_later hCx q3
        have xc : ∀ c : Value, ρ (.const c) = c := fun c => hcon (.const c) (fun t h => by cases h)
        have xf : ∀ f : FuncId, ρ (.func f) = .func (.func f) #[] #[] := fun f => hcon (.func f) (fun t h => by cases h)
        match i, ho with
        | 0, ho =>
          simp only [List.getElem?_toArray, List.getElem?_cons_zero, List.getElem?_cons_succ, Option.some.injEq] at ho
          subst ho
          generalize hR : (fun (u : Value) (w' : World) => Below wd.heap.size wd w' ∧ _) = R
          clear hout hcon hdep
          go_simp
          subst hR
          exact ⟨hCx, fun s u h => h, fun d hd => (by obtain rfl : 16 = d := Option.some.inj hd; exact rfl)⟩
        | 1, ho =>
          simp only [List.getElem?_toArray, List.getElem?_cons_zero, List.getElem?_cons_succ, Option.some.injEq] at ho
          subst ho
          have d16 := hdep ⟨0, .data⟩ (by simp) rfl _ rfl 16 rfl
          change ρ (.tmp 16) = _ at d16
          generalize hR : (fun (u : Value) (w' : World) => Below wd.heap.size wd w' ∧ _) = R
          clear hout hcon hdep
          go_simp
          subst hR
          exact ⟨hCx, fun s u h => h, fun d hd => (by obtain rfl : 17 = d := Option.some.inj hd; exact rfl)⟩
        | 2, ho =>
          simp only [List.getElem?_toArray, List.getElem?_cons_zero, List.getElem?_cons_succ, Option.some.injEq] at ho
          subst ho
          have d17 := hdep ⟨1, .data⟩ (by simp) rfl _ rfl 17 rfl
          change ρ (.tmp 17) = _ at d17
          generalize hR : (fun (u : Value) (w' : World) => Below wd.heap.size wd w' ∧ _) = R
          clear hout hcon hdep
          go_simp
          rw [stepOk_enter]
          refine (HC1.out wx).mono ?_
          rintro e w2 ⟨rfl, hb2⟩
          subst hR
          exact ⟨_, rfl, hCx.trans (hb2.mono hCx.size), goodBy_stay hb2, fun d hd => (by obtain rfl : 18 = d := Option.some.inj hd; exact rfl)⟩
        | 3, ho =>
          simp only [List.getElem?_toArray, List.getElem?_cons_zero, List.getElem?_cons_succ, Option.some.injEq] at ho
          subst ho
          have d18 := hdep ⟨2, .data⟩ (by simp) rfl _ rfl 18 rfl
          change ρ (.tmp 18) = _ at d18
          generalize hR : (fun (u : Value) (w' : World) => Below wd.heap.size wd w' ∧ _) = R
          clear hout hcon hdep
          go_simp
          subst hR
          exact ⟨hCx, fun s u h => h, fun d hd => (by obtain rfl : 19 = d := Option.some.inj hd; exact rfl)⟩
        | 4, ho =>
          simp only [List.getElem?_toArray, List.getElem?_cons_zero, List.getElem?_cons_succ, Option.some.injEq] at ho
          subst ho
          have d19 := hdep ⟨3, .data⟩ (by simp) rfl _ rfl 19 rfl
          change ρ (.tmp 19) = _ at d19
          generalize hR : (fun (u : Value) (w' : World) => Below wd.heap.size wd w' ∧ _) = R
          clear hout hcon hdep
          go_simp
          subst hR
          exact ⟨hCx, fun s u h => h, fun d hd => (by obtain rfl : 20 = d := Option.some.inj hd; exact rfl)⟩
        | 5, ho =>
          simp only [List.getElem?_toArray, List.getElem?_cons_zero, List.getElem?_cons_succ, Option.some.injEq] at ho
          subst ho
          generalize hR : (fun (u : Value) (w' : World) => Below wd.heap.size wd w' ∧ _) = R
          clear hout hcon hdep
          go_simp
          subst hR
          exact ⟨hCx, fun s u h => h, fun d hd => (by obtain rfl : 21 = d := Option.some.inj hd; exact rfl)⟩
        | 6, ho =>
          simp only [List.getElem?_toArray, List.getElem?_cons_zero, List.getElem?_cons_succ, Option.some.injEq] at ho
          subst ho
          have d21 := hdep ⟨5, .data⟩ (by simp) rfl _ rfl 21 rfl
          change ρ (.tmp 21) = _ at d21
          generalize hR : (fun (u : Value) (w' : World) => Below wd.heap.size wd w' ∧ _) = R
          clear hout hcon hdep
          go_simp
          subst hR
          exact ⟨hCx, fun s u h => h, fun d hd => (by obtain rfl : 22 = d := Option.some.inj hd; exact rfl)⟩
        | 7, ho =>
          simp only [List.getElem?_toArray, List.getElem?_cons_zero, List.getElem?_cons_succ, Option.some.injEq] at ho
          subst ho
          have d22 := hdep ⟨6, .data⟩ (by simp) rfl _ rfl 22 rfl
          change ρ (.tmp 22) = _ at d22
          generalize hR : (fun (u : Value) (w' : World) => Below wd.heap.size wd w' ∧ _) = R
          clear hout hcon hdep
          go_simp
          rw [stepOk_enter]
          refine (HC2.out wx).mono ?_
          rintro e w2 ⟨rfl, hb2⟩
          subst hR
          exact ⟨_, rfl, hCx.trans (hb2.mono hCx.size), goodBy_stay hb2, fun d hd => (by obtain rfl : 23 = d := Option.some.inj hd; exact rfl)⟩
        | 8, ho =>
          simp only [List.getElem?_toArray, List.getElem?_cons_zero, List.getElem?_cons_succ, Option.some.injEq] at ho
          subst ho
          have d20 := hdep ⟨4, .data⟩ (by simp) rfl _ rfl 20 rfl
          change ρ (.tmp 20) = _ at d20
          have d23 := hdep ⟨7, .data⟩ (by simp) rfl _ rfl 23 rfl
          change ρ (.tmp 23) = _ at d23
          generalize hR : (fun (u : Value) (w' : World) => Below wd.heap.size wd w' ∧ _) = R
          clear hout hcon hdep
          go_simp
          subst hR
          exact ⟨hCx, fun s u h => h, fun d hd => (by obtain rfl : 24 = d := Option.some.inj hd; exact rfl)⟩
        | 9, ho =>
          simp only [List.getElem?_toArray, List.getElem?_cons_zero, List.getElem?_cons_succ, Option.some.injEq] at ho
          subst ho
          have d24 := hdep ⟨8, .data⟩ (by simp) rfl _ rfl 24 rfl
          change ρ (.tmp 24) = _ at d24
          generalize hR : (fun (u : Value) (w' : World) => Below wd.heap.size wd w' ∧ _) = R
          clear hout hcon hdep
          go_simp
          subst hR
          exact ⟨hCx, fun s u h => h, fun d hd => (by obtain rfl : 7 = d := Option.some.inj hd; exact rfl)⟩
        | n + 10, ho => exact absurd ho (by simp)
      · intro us w9 hC9 hg
        have q9 : us 7 = .string t3 := hg 9 _ rfl 7 rfl
        generalize hds : dstsOf _ = ds
        obtain rfl : ds = [16, 17, 18, 19, 20, 21, 22, 23, 24, 7] := hds.symm.trans rfl
        simp only [List.foldl_cons, List.foldl_nil, List.setIfInBounds_toArray, List.set_cons_zero, List.set_cons_succ]
        rw [q9]
        clear hg q9
        go_wp2_with fail
        go_meet
        case rel => exact ⟨rfl, hC9⟩
    case rest =>
      obtain ⟨rfl, hbe⟩ := hcut
      rename World => we
      have HX3 := Lib.hid (HX2.out.below hbe)
      have HR3 := Lib.hid (HR2.out.below hbe)
      have HB3 := Lib.hid (HB2.out.trans (hbe.mono HB2.out.size))
      clear hbe q2 q3 E0 E1 E2 E3 HC1 HC2 HX2 HR2 HB2
      go_wp2_with fail
      go_loopg [8, 9] (l.length + 1) (fun g s i wx => ∃ (k : Nat) (T : ByteArray), s = .string T ∧ i = .int .i64 k ∧ k ≤ l.length ∧ l.length - k < g ∧ T.size ≤ 3 + 22 * k ∧ Hid (T.data.toList = [114, 111, 119] ++ arrText (l.take k)) ∧ Hid (Below we.heap.size we wx))
      case atStart => exact ⟨0, _, rfl, rfl, by omega, by omega, by decide, rfl, Below.refl _ _⟩
      case round =>
        obtain ⟨j, T, rfl, rfl, hj, hg, hTl, HT, HBX⟩ := hrel
        obtain ⟨g, rfl⟩ : ∃ g, gk = g + 1 := ⟨gk - 1, by omega⟩
        have q7 := (HX3.out.below HBX.out).g7
        by_cases hlt : j < l.length
        · obtain ⟨b, o, hA, hb0, hc0⟩ := (HR3.out.below HBX.out) j hlt
          have hnk := HN.out l[j] (List.getElem_mem hlt)
          have HTK := Lib.hid (arr_take l j hlt)
          have hil := Lib.itoa_length_le l[j] hnk.1 hnk.2
          have HCN := Lib.hid (number_any l[j] hnk.1 hnk.2 wr)
          generalize l[j] = n at *
          rw [show (⟨(Lib.itoa n).toArray⟩ : ByteArray) = itoaB n from rfl] at HCN
          have hsn : (itoaB n).size ≤ 21 := hil
          subst hA
          go_wp2_with fail
          refine HCN.out.mono ?_
          rintro e wg ⟨rfl, hbg⟩
          have HB5 := Lib.hid (HBX.out.trans (hbg.mono HBX.out.size))
          clear hbg hc0 q7 HCN
          have hs1 : T.size + (⟨#[32]⟩ : ByteArray).size ≤ 9223372036854775807 := by
            show T.size + 1 ≤ _
            omega
          have hs2 : (T ++ ⟨#[32]⟩).size + (itoaB n).size ≤ 9223372036854775807 := by
            rw [ByteArray.size_append]
            show T.size + 1 + _ ≤ _
            omega
          have F1 : ∀ W, (Op.stringOp .add T ⟨#[32]⟩).run Tryd.prog W = .ok (.string (T ++ ⟨#[32]⟩)) W := fun W => run_string_add_sum _ _ _ hs1
          have F2 : ∀ W, (Op.stringOp .add (T ++ ⟨#[32]⟩) (itoaB n)).run Tryd.prog W = .ok (.string (T ++ ⟨#[32]⟩ ++ itoaB n)) W := fun W => run_string_add_sum _ _ _ hs2
          have HT2 := Lib.hid (show (T ++ ⟨#[32]⟩ ++ itoaB n).data.toList = [114, 111, 119] ++ arrText (l.take (j + 1)) by
            rw [HTK.out]
            simp [HT.out, itoaB])
          have hl2 : (T ++ ⟨#[32]⟩ ++ itoaB n).size ≤ 3 + 22 * (j + 1) := by
            rw [ByteArray.size_append, ByteArray.size_append]
            show T.size + 1 + _ ≤ _
            omega
          clear hs1 hs2
          go_wp2_with fail
          go_roundg g
          case measure => omega
          case rel => exact ⟨j + 1, _, rfl, by go_num, by omega, by omega, hl2, HT2, HB5⟩
        · have hje : j = l.length := by omega
          subst hje
          rename World => wf
          have hT7 := HT.out
          rw [List.take_length] at hT7
          have HT7 := Lib.hid hT7
          have HX4 := Lib.hid (HX3.out.below HBX.out)
          have HB4 := Lib.hid (HB3.out.trans (HBX.out.mono HB3.out.size))
          clear hT7 HT HX3 HR3 HB3 HBX hg hj
          have hT9 : T.size ≤ 3000 := by omega
          have q4 := HX4.out.g4
          have q5 := HX4.out.g5
          have q6 := HX4.out.g6
          have hlr : (itoaB r).size ≤ 21 := Lib.itoa_length_le r HRQ.out.1 HRQ.out.2
          have hli : (itoaB i).size ≤ 21 := Lib.itoa_length_le i HI.out.1 HI.out.2
          have hlc : (itoaB c).size ≤ 21 := Lib.itoa_length_le c HCM.out.1 HCM.out.2
          have HF := Lib.hid (fun (u : Int) (hu : In64 u) => number16_any u hu wf)
          go_upto_region 11 with fail
          clear hlt
          have hk : (k = 4 ∨ k = 5 ∨ k = 7) ∨ (k = 6 ∨ k = 8) ∨ k = 9 ∨ (k = 10 ∨ k = 11 ∨ k = 12) ∨ (k = 13 ∨ k = 14) ∨ (k = 16 ∨ k = 17 ∨ k = 18) ∨ k = 19 ∨ (k = 20 ∨ k = 21) ∨ (¬ (k = 4 ∨ k = 5 ∨ k = 7) ∧ ¬ (k = 6 ∨ k = 8) ∧ ¬ k = 9 ∧ ¬ (k = 10 ∨ k = 11 ∨ k = 12) ∧ ¬ (k = 13 ∨ k = 14) ∧ ¬ (k = 16 ∨ k = 17 ∨ k = 18) ∧ ¬ k = 19 ∧ ¬ (k = 20 ∨ k = 21)) := by omega
          rcases hk with hk | hk | hk | hk | hk | hk | hk | hk | hk
          · rcases hk with rfl | rfl | rfl
            all_goals
              go_wp2_with fail
              refine (HF.out r HRQ.out).mono ?_
              rintro e wg ⟨rfl, hbg⟩
              have HB5 := Lib.hid (HB4.out.trans (hbg.mono HB4.out.size))
              clear hbg
              go_wp2_with fail
              go_ret
              exact ⟨ret_str (by apply ByteArray.ext; simp [toldF, itoaB]), HB5.out⟩
          · rcases hk with rfl | rfl
            all_goals
              go_wp2_with fail
              go_ret
              exact ⟨ret_str (by apply bytes_list; simp [toldF, HSV.out, HT3.out]), HB4.out⟩
          · subst hk
            go_wp2_with fail
            go_ret
            exact ⟨ret_str (by apply bytes_list; simp [toldF, HSV.out, HT3.out, HT7.out]), HB4.out⟩
          · rcases hk with rfl | rfl | rfl
            all_goals
              go_wp2_with fail
              refine (HF.out i HI.out).mono ?_
              rintro e wg ⟨rfl, hbg⟩
              have HB5 := Lib.hid (HB4.out.trans (hbg.mono HB4.out.size))
              clear hbg
              go_wp2_with fail
              go_ret
              exact ⟨ret_str (by apply bytes_list; simp [toldF, HSV.out, HT3.out, HSF.out, itoaB]), HB5.out⟩
          · rcases hk with rfl | rfl
            all_goals
              go_wp2_with fail
              go_ret
              exact ⟨ret_str (by apply bytes_list; simp [toldF, HT3.out, HSF.out]), HB4.out⟩
          · rcases hk with rfl | rfl | rfl
            all_goals
              go_wp2_with fail
              go_ret
              exact ⟨ret_str (by apply bytes_list; simp [toldF, HSV.out]), HB4.out⟩
          · subst hk
            go_wp2_with fail
            go_ret
            exact ⟨ret_str (by apply bytes_list; simp [toldF, HT7.out]), HB4.out⟩
          · rcases hk with rfl | rfl
            all_goals
              go_wp2_with fail
              refine (HF.out c HCM.out).mono ?_
              rintro e wg ⟨rfl, hbg⟩
              have HB5 := Lib.hid (HB4.out.trans (hbg.mono HB4.out.size))
              clear hbg
              go_wp2_with fail
              go_ret
              exact ⟨ret_str (by apply ByteArray.ext; simp [toldF, itoaB]), HB5.out⟩
          · obtain ⟨n1, n2, n3, n4, n5, n6, n7, n8⟩ := hk
            have HTO := Lib.hid (show toldF k flag v p t r i c l = [] by
              unfold toldF
              rw [if_neg n1, if_neg n2, if_neg n3, if_neg n4, if_neg n5, if_neg n6, if_neg n7, if_neg n8])
            have z : ∀ m : Int, k ≠ m → (k == m) = false := fun m hm => beq_eq_false_iff_ne.2 hm
            have z4 := z 4 (by omega)
            have z5 := z 5 (by omega)
            have z6 := z 6 (by omega)
            have z7 := z 7 (by omega)
            have z8 := z 8 (by omega)
            have z9 := z 9 (by omega)
            have z10 := z 10 (by omega)
            have z11 := z 11 (by omega)
            have z12 := z 12 (by omega)
            have z13 := z 13 (by omega)
            have z14 := z 14 (by omega)
            have z16 := z 16 (by omega)
            have z17 := z 17 (by omega)
            have z18 := z 18 (by omega)
            have z19 := z 19 (by omega)
            have z20 := z 20 (by omega)
            have z21 := z 21 (by omega)
            clear z n1 n2 n3 n4 n5 n6 n7 n8
            go_wp2_with fail
            go_ret
            exact ⟨ret_str (by rw [HTO.out]), HB4.out⟩
end Go.Proofs.YtgphigpbgiceiaaDoor
