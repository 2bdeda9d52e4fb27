/- The walk of dispatcherref16.Text. -/
import Derived.Test.YtgphigpbgiceiaaDoorRTextA
import Derived.Test.YtgphigpbgiceiaaDoorClText
import Derived.Test.YtgphigpbgiceiaaDoorClRSame
namespace Go.Proofs.YtgphigpbgiceiaaDoor
open Go.RowKit Go.Sort
set_option linter.unusedVariables false
set_option linter.unusedSimpArgs false

/-- What a letter stands for, as text. -/
def letT (c : Cl) (x : UInt8) : List UInt8 := if x = 99 then Lib.itoa c.comm else if x = 112 then Lib.itoa c.peer else if x = 116 then Lib.itoa c.tag else if x = 118 then Lib.itoa c.value else if x = 115 then Lib.itoa c.size
  else if x = 114 then Lib.itoa c.root else if x = 111 then redK c.op else if x = 107 then Lib.itoa c.color ++ [44, 32] ++ Lib.itoa c.key else Lib.join (c.reqs.map Lib.itoa) [44, 32]
def rText (c : Cl) (ls : List UInt8) : List UInt8 := wordK c.kind ++ [40] ++ Lib.join (ls.map (letT c)) [44, 32] ++ [41]
theorem rText_eq (c : Cl) (h : (usesF c.kind).isSome = true) : rText c (usesS c.kind) = clText c ((usesF c.kind).getD []) := by
  have go : ∀ (lf : List Int) (ls : List UInt8), usesF c.kind = some lf → usesS c.kind = ls → Lib.join (ls.map (letT c)) [44, 32] = Lib.join ((clNums c lf).map Lib.itoa) [44, 32] ++ (if lf.contains 9 then [44, 32] ++ redK c.op else []) → rText c (usesS c.kind) = clText c ((usesF c.kind).getD []) := by
    intro lf ls h1 h2 h3
    unfold rText clText
    rw [h2, h1, Option.getD_some, h3]
    simp
  by_cases k1 : c.kind = 1 ∨ c.kind = 2 ∨ c.kind = 3 ∨ c.kind = 4 ∨ c.kind = 5
  · exact go [0, 1, 2, 3, 4] [99, 112, 116, 118, 115] (by unfold usesF; rw [if_pos k1]) (by unfold usesS; rw [if_pos k1]) (by simp [letT, clNums, getF])
  by_cases k2 : c.kind = 6 ∨ c.kind = 7 ∨ c.kind = 13 ∨ c.kind = 14
  · exact go [0, 1, 2] [99, 112, 116] (by unfold usesF; rw [if_neg k1, if_pos k2]) (by unfold usesS; rw [if_neg k1, if_pos k2]) (by simp [letT, clNums, getF])
  by_cases k3 : c.kind = 8 ∨ c.kind = 9 ∨ c.kind = 10 ∨ c.kind = 11 ∨ c.kind = 12
  · exact go [8] [108] (by unfold usesF; rw [if_neg k1, if_neg k2, if_pos k3]) (by unfold usesS; rw [if_neg k1, if_neg k2, if_pos k3]) (by simp [letT, clNums, Lib.join_one])
  by_cases k4 : c.kind = 15 ∨ c.kind = 20 ∨ c.kind = 22
  · exact go [0] [99] (by unfold usesF; rw [if_neg k1, if_neg k2, if_neg k3, if_pos k4]) (by unfold usesS; rw [if_neg k1, if_neg k2, if_neg k3, if_pos k4]) (by simp [letT, clNums, getF])
  by_cases k5 : c.kind = 16 ∨ c.kind = 19
  · exact go [0, 5, 3] [99, 114, 118] (by unfold usesF; rw [if_neg k1, if_neg k2, if_neg k3, if_neg k4, if_pos k5]) (by unfold usesS; rw [if_neg k1, if_neg k2, if_neg k3, if_neg k4, if_pos k5]) (by simp [letT, clNums, getF])
  by_cases k6 : c.kind = 17
  · exact go [0, 5, 3, 9] [99, 114, 118, 111] (by unfold usesF; rw [if_neg k1, if_neg k2, if_neg k3, if_neg k4, if_neg k5, if_pos k6]) (by unfold usesS; rw [if_neg k1, if_neg k2, if_neg k3, if_neg k4, if_neg k5, if_pos k6]) (by simp [letT, clNums, getF, Lib.join_cons, Lib.joinTail])
  by_cases k7 : c.kind = 18
  · exact go [0, 3, 9] [99, 118, 111] (by unfold usesF; rw [if_neg k1, if_neg k2, if_neg k3, if_neg k4, if_neg k5, if_neg k6, if_pos k7]) (by unfold usesS; rw [if_neg k1, if_neg k2, if_neg k3, if_neg k4, if_neg k5, if_neg k6, if_pos k7]) (by simp [letT, clNums, getF, Lib.join_cons, Lib.joinTail])
  by_cases k8 : c.kind = 21
  · exact go [0, 6, 7] [99, 107] (by unfold usesF; rw [if_neg k1, if_neg k2, if_neg k3, if_neg k4, if_neg k5, if_neg k6, if_neg k7, if_pos k8]) (by unfold usesS; rw [if_neg k1, if_neg k2, if_neg k3, if_neg k4, if_neg k5, if_neg k6, if_neg k7, if_pos k8]) (by simp [letT, clNums, getF, Lib.join_cons, Lib.joinTail])
  have h0 : usesF c.kind = none := by unfold usesF; rw [if_neg k1, if_neg k2, if_neg k3, if_neg k4, if_neg k5, if_neg k6, if_neg k7, if_neg k8]
  rw [h0] at h
  cases h
theorem letters (k : Int) : ∀ x ∈ usesS k, x = 99 ∨ x = 112 ∨ x = 116 ∨ x = 118 ∨ x = 115 ∨ x = 114 ∨ x = 111 ∨ x = 107 ∨ x = 108 := by
  intro x hx
  unfold usesS at hx
  repeat' split at hx
  all_goals
    simp only [List.mem_cons, List.not_mem_nil, or_false] at hx
    try (first
    | (rcases hx with rfl | rfl | rfl | rfl | rfl <;> simp; done)
    | (rcases hx with rfl | rfl | rfl | rfl <;> simp; done)
    | (rcases hx with rfl | rfl | rfl <;> simp; done)
    | (rcases hx with rfl | rfl <;> simp; done)
    | (rcases hx with rfl; simp; done))
theorem letT_len {c : Cl} (h : c.Ok) (hl : c.reqs.length ≤ 60) (x : UInt8) : (letT c x).length ≤ 1500 := by
  have n1 : ∀ n : Int, I64 n → (Lib.itoa n).length ≤ 21 := fun n hn => Lib.itoa_length_le n hn.1 hn.2
  unfold letT
  split; · have := n1 _ h.comm; omega
  split; · have := n1 _ h.peer; omega
  split; · have := n1 _ h.tag; omega
  split; · have := n1 _ h.value; omega
  split; · have := n1 _ h.size; omega
  split; · have := n1 _ h.root; omega
  split; · have := reds_len c.op.toNat; unfold redK; omega
  split
  · have h1 := n1 _ h.color
    have h2 := n1 _ h.key
    rw [List.length_append, List.length_append, List.length_cons, List.length_cons, List.length_nil]
    omega
  · exact nums_len _ h.reqs hl
def letB (c : Cl) (x : UInt8) : ByteArray := ⟨(letT c x).toArray⟩
theorem letB_size {c : Cl} (h : c.Ok) (hl : c.reqs.length ≤ 60) (x : UInt8) : (letB c x).size ≤ 1500 := letT_len h hl x

set_option maxHeartbeats 32000000 in
set_option maxRecDepth 100000 in
theorem rText_any (c : Cl) (A : Option Addr) (cap : Nat) (w : World) (hc : c.Ok) (hR : IntRow w A c.reqs) (hl : c.reqs.length ≤ 1000) :
    Calls Tryd.prog 8 #[.agg (clCells c A cap)] w (TextPost c w) := by
  obtain ⟨w9, hw9⟩ : ∃ y, y = w.alloc (.cells (clCells c A cap) 29) := ⟨_, rfl⟩
  have e2 : Below w.heap.size w w9 := by rw [hw9]; exact (Below.refl _ _).alloc (Nat.le_refl _) _
  have f2 : ClBlk w9 w.heap.size c A cap := by rw [hw9]; exact ClBlk.new
  have HB9 := Lib.hid e2
  have HX9 := Lib.hid f2
  have HR9 := Lib.hid (hR.below e2)
  have HC := Lib.hid hc
  have HL := Lib.hid hl
  have HU := Lib.hid (fun w => ruses_any c.kind w)
  obtain ⟨u, hu⟩ : ∃ u : ByteArray, (⟨(usesS c.kind).toArray⟩ : ByteArray) = u := ⟨_, rfl⟩
  rw [hu] at HU
  have HUL := Lib.hid (show u.data.toList = usesS c.kind by rw [← hu])
  have HLL := Lib.hid (fun w => rhas_any c.kind 108 w)
  simp only [show (((108 : UInt8).toNat : Nat) : Int) = 108 from rfl] at HLL
  obtain ⟨h8, hh8⟩ : ∃ x, (usesS c.kind).contains 108 = x := ⟨_, rfl⟩
  rw [hh8] at HLL
  have HH8 := Lib.hid hh8
  have HSO := Lib.hid (show (u.toList == []) = !(usesF c.kind).isSome by
    rw [← hu, ByteArray.toList_eq, Bool.eq_iff_iff]
    have := (uses_both c.kind).1
    simp [this])
  go_enter Tryd.func8, Tryd.ntmps8
  go_upto_region 1 with fail
  rw [← hw9]
  clear hw9 e2 f2 hR hc hl hu hh8
  cases hk : (usesF c.kind).isSome
  case false =>
    have HK := Lib.hid hk
    have dt : (u.toList == []) = true := by rw [HSO.out, hk]; rfl
    clear hk
    refine wp_region_relg (fun w' => Below w9.heap.size w9 w') (goodBy [(7, .is (.pointer (some ⟨w.heap.size, 0, none⟩))), (8, .is (.int .u8 c.kind)), (9, .is (.string u)), (10, .is (.bool true)), (11, .is (.bool true)), (12, .is undef), (13, .is undef), (14, .is undef), (15, .is undef), (16, .is undef), (17, .is (.bool true)), (18, .is (.bool true)), (19, .is undef), (20, .is undef), (21, .is undef), (22, .is (.bool true)), (23, .is (.bool true)), (24, .is undef), (25, .is undef), (26, .is undef), (27, .is undef), (28, .is undef), (29, .is undef), (30, .is undef), (31, .is undef), (32, .is (.bool true))]) (by first | assumption | kernel_rfl) (by first | rfl | kernel_rfl) (Below.refl _ _).drew ?_ ?_
    · intro i o ho ρ wx hCx hout hcon hdep
      have x1 : ρ (.tmp 1) = .pointer (some ⟨w.heap.size, 0, none⟩) := hout 1 (by decide)
      have y0 := cell_later hCx HX9.out.at.g0
      have y1 := cell_later hCx HX9.out.at.g1
      have y2 := cell_later hCx HX9.out.at.g2
      have y3 := cell_later hCx HX9.out.at.g3
      have y4 := cell_later hCx HX9.out.at.g4
      have y5 := cell_later hCx HX9.out.at.g5
      have y6 := cell_later hCx HX9.out.at.g6
      have y7 := cell_later hCx HX9.out.at.g7
      have y8 := cell_later hCx HX9.out.at.g8
      have y9 := cell_later hCx HX9.out.at.g9
      have yA := cell_later hCx HX9.out.at.gA
      have xc : ∀ c : Value, ρ (.const c) = c := fun c => hcon (.const c) (fun t h => by cases h)
      skip
      have xf : ∀ f : FuncId, ρ (.func f) = .func (.func f) #[] #[] := fun f => hcon (.func f) (fun t h => by cases h)
      match i, ho with
      | 0, ho =>
        simp only [List.getElem?_toArray, List.getElem?_cons_zero, List.getElem?_cons_succ, Option.some.injEq] at ho
        subst ho
        rw [if_pos (wantR_none rfl)]
        generalize hR : (fun (u : Value) (w' : World) => Below w9.heap.size w9 w' ∧ _) = R
        clear hout hcon hdep
        go_simp
        subst hR
        exact ⟨hCx, fun s u h => h, fun d hd => (by obtain rfl : 7 = d := Option.some.inj hd; exact rfl)⟩
      | 1, ho =>
        simp only [List.getElem?_toArray, List.getElem?_cons_zero, List.getElem?_cons_succ, Option.some.injEq] at ho
        subst ho
        rw [if_pos (wantR_none rfl)]
        have d7 := hdep ⟨0, .data⟩ (by simp) rfl _ rfl 7 rfl
        change ρ (.tmp 7) = _ at d7
        generalize hR : (fun (u : Value) (w' : World) => Below w9.heap.size w9 w' ∧ _) = R
        clear hout hcon hdep
        go_simp
        subst hR
        exact ⟨hCx, fun s u h => h, fun d hd => (by obtain rfl : 8 = d := Option.some.inj hd; exact rfl)⟩
      | 2, ho =>
        simp only [List.getElem?_toArray, List.getElem?_cons_zero, List.getElem?_cons_succ, Option.some.injEq] at ho
        subst ho
        rw [if_pos (wantR_none rfl)]
        have d8 := hdep ⟨1, .data⟩ (by simp) rfl _ rfl 8 rfl
        change ρ (.tmp 8) = _ at d8
        generalize hR : (fun (u : Value) (w' : World) => Below w9.heap.size w9 w' ∧ _) = R
        clear hout hcon hdep
        go_simp
        rw [stepOk_enter]
        refine (HU.out _).mono ?_
        rintro e w2 ⟨rfl, rfl⟩
        subst hR
        exact ⟨_, rfl, hCx, fun s u h => h, fun d hd => (by obtain rfl : 9 = d := Option.some.inj hd; exact rfl)⟩
      | 3, ho =>
        simp only [List.getElem?_toArray, List.getElem?_cons_zero, List.getElem?_cons_succ, Option.some.injEq] at ho
        subst ho
        rw [if_pos (wantR_none rfl)]
        have d9 := hdep ⟨2, .data⟩ (by simp) rfl _ rfl 9 rfl
        change ρ (.tmp 9) = _ at d9
        generalize hR : (fun (u : Value) (w' : World) => Below w9.heap.size w9 w' ∧ _) = R
        clear hout hcon hdep
        go_simp
        subst hR
        exact ⟨hCx, fun s u h => h, fun d hd => (by obtain rfl : 10 = d := Option.some.inj hd; exact rfl)⟩
      | 4, ho =>
        simp only [List.getElem?_toArray, List.getElem?_cons_zero, List.getElem?_cons_succ, Option.some.injEq] at ho
        subst ho
        rw [if_pos (wantR_none rfl)]
        have d10 := hdep ⟨3, .data⟩ (by simp) rfl _ rfl 10 rfl
        change ρ (.tmp 10) = _ at d10
        generalize hR : (fun (u : Value) (w' : World) => Below w9.heap.size w9 w' ∧ _) = R
        clear hout hcon hdep
        go_simp
        subst hR
        exact ⟨hCx, fun s u h => h, fun d hd => (by obtain rfl : 11 = d := Option.some.inj hd; exact rfl)⟩
      | 5, ho =>
        simp only [List.getElem?_toArray, List.getElem?_cons_zero, List.getElem?_cons_succ, Option.some.injEq] at ho
        subst ho
        have dG := hdep ⟨4, .guard⟩ (by simp) rfl _ rfl 11 rfl
        change ρ (.tmp 11) = _ at dG
        rw [if_neg (by rw [wantR_some rfl rfl rfl dG]; decide)]
        exact fun d hd => (by obtain rfl : 12 = d := Option.some.inj hd; exact rfl)
      | 6, ho =>
        simp only [List.getElem?_toArray, List.getElem?_cons_zero, List.getElem?_cons_succ, Option.some.injEq] at ho
        subst ho
        have dG := hdep ⟨4, .guard⟩ (by simp) rfl _ rfl 11 rfl
        change ρ (.tmp 11) = _ at dG
        rw [if_neg (by rw [wantR_some rfl rfl rfl dG]; decide)]
        exact fun d hd => (by obtain rfl : 13 = d := Option.some.inj hd; exact rfl)
      | 7, ho =>
        simp only [List.getElem?_toArray, List.getElem?_cons_zero, List.getElem?_cons_succ, Option.some.injEq] at ho
        subst ho
        have dG := hdep ⟨4, .guard⟩ (by simp) rfl _ rfl 11 rfl
        change ρ (.tmp 11) = _ at dG
        rw [if_neg (by rw [wantR_some rfl rfl rfl dG]; decide)]
        exact fun d hd => (by obtain rfl : 14 = d := Option.some.inj hd; exact rfl)
      | 8, ho =>
        simp only [List.getElem?_toArray, List.getElem?_cons_zero, List.getElem?_cons_succ, Option.some.injEq] at ho
        subst ho
        have dG := hdep ⟨4, .guard⟩ (by simp) rfl _ rfl 11 rfl
        change ρ (.tmp 11) = _ at dG
        rw [if_neg (by rw [wantR_some rfl rfl rfl dG]; decide)]
        exact fun d hd => (by obtain rfl : 15 = d := Option.some.inj hd; exact rfl)
      | 9, ho =>
        simp only [List.getElem?_toArray, List.getElem?_cons_zero, List.getElem?_cons_succ, Option.some.injEq] at ho
        subst ho
        have dG := hdep ⟨4, .guard⟩ (by simp) rfl _ rfl 11 rfl
        change ρ (.tmp 11) = _ at dG
        rw [if_neg (by rw [wantR_some rfl rfl rfl dG]; decide)]
        exact fun d hd => (by obtain rfl : 16 = d := Option.some.inj hd; exact rfl)
      | 10, ho =>
        simp only [List.getElem?_toArray, List.getElem?_cons_zero, List.getElem?_cons_succ, Option.some.injEq] at ho
        subst ho
        rw [if_pos (wantR_none rfl)]
        have d11 := hdep ⟨4, .data⟩ (by simp) rfl _ rfl 11 rfl
        change ρ (.tmp 11) = _ at d11
        have d16 := hdep ⟨9, .data⟩ (by simp) rfl _ rfl 16 rfl
        change ρ (.tmp 16) = _ at d16
        generalize hR : (fun (u : Value) (w' : World) => Below w9.heap.size w9 w' ∧ _) = R
        clear hout hcon hdep
        go_simp
        subst hR
        exact ⟨hCx, fun s u h => h, fun d hd => (by obtain rfl : 17 = d := Option.some.inj hd; exact rfl)⟩
      | 11, ho =>
        simp only [List.getElem?_toArray, List.getElem?_cons_zero, List.getElem?_cons_succ, Option.some.injEq] at ho
        subst ho
        rw [if_pos (wantR_none rfl)]
        have d17 := hdep ⟨10, .data⟩ (by simp) rfl _ rfl 17 rfl
        change ρ (.tmp 17) = _ at d17
        generalize hR : (fun (u : Value) (w' : World) => Below w9.heap.size w9 w' ∧ _) = R
        clear hout hcon hdep
        go_simp
        subst hR
        exact ⟨hCx, fun s u h => h, fun d hd => (by obtain rfl : 18 = d := Option.some.inj hd; exact rfl)⟩
      | 12, ho =>
        simp only [List.getElem?_toArray, List.getElem?_cons_zero, List.getElem?_cons_succ, Option.some.injEq] at ho
        subst ho
        have dG := hdep ⟨11, .guard⟩ (by simp) rfl _ rfl 18 rfl
        change ρ (.tmp 18) = _ at dG
        rw [if_neg (by rw [wantR_some rfl rfl rfl dG]; decide)]
        exact fun d hd => (by obtain rfl : 19 = d := Option.some.inj hd; exact rfl)
      | 13, ho =>
        simp only [List.getElem?_toArray, List.getElem?_cons_zero, List.getElem?_cons_succ, Option.some.injEq] at ho
        subst ho
        have dG := hdep ⟨11, .guard⟩ (by simp) rfl _ rfl 18 rfl
        change ρ (.tmp 18) = _ at dG
        rw [if_neg (by rw [wantR_some rfl rfl rfl dG]; decide)]
        exact fun d hd => (by obtain rfl : 20 = d := Option.some.inj hd; exact rfl)
      | 14, ho =>
        simp only [List.getElem?_toArray, List.getElem?_cons_zero, List.getElem?_cons_succ, Option.some.injEq] at ho
        subst ho
        have dG := hdep ⟨11, .guard⟩ (by simp) rfl _ rfl 18 rfl
        change ρ (.tmp 18) = _ at dG
        rw [if_neg (by rw [wantR_some rfl rfl rfl dG]; decide)]
        exact fun d hd => (by obtain rfl : 21 = d := Option.some.inj hd; exact rfl)
      | 15, ho =>
        simp only [List.getElem?_toArray, List.getElem?_cons_zero, List.getElem?_cons_succ, Option.some.injEq] at ho
        subst ho
        rw [if_pos (wantR_none rfl)]
        have d18 := hdep ⟨11, .data⟩ (by simp) rfl _ rfl 18 rfl
        change ρ (.tmp 18) = _ at d18
        have d21 := hdep ⟨14, .data⟩ (by simp) rfl _ rfl 21 rfl
        change ρ (.tmp 21) = _ at d21
        generalize hR : (fun (u : Value) (w' : World) => Below w9.heap.size w9 w' ∧ _) = R
        clear hout hcon hdep
        go_simp
        subst hR
        exact ⟨hCx, fun s u h => h, fun d hd => (by obtain rfl : 22 = d := Option.some.inj hd; exact rfl)⟩
      | 16, ho =>
        simp only [List.getElem?_toArray, List.getElem?_cons_zero, List.getElem?_cons_succ, Option.some.injEq] at ho
        subst ho
        rw [if_pos (wantR_none rfl)]
        have d22 := hdep ⟨15, .data⟩ (by simp) rfl _ rfl 22 rfl
        change ρ (.tmp 22) = _ at d22
        generalize hR : (fun (u : Value) (w' : World) => Below w9.heap.size w9 w' ∧ _) = R
        clear hout hcon hdep
        go_simp
        subst hR
        exact ⟨hCx, fun s u h => h, fun d hd => (by obtain rfl : 23 = d := Option.some.inj hd; exact rfl)⟩
      | 17, ho =>
        simp only [List.getElem?_toArray, List.getElem?_cons_zero, List.getElem?_cons_succ, Option.some.injEq] at ho
        subst ho
        have dG := hdep ⟨16, .guard⟩ (by simp) rfl _ rfl 23 rfl
        change ρ (.tmp 23) = _ at dG
        rw [if_neg (by rw [wantR_some rfl rfl rfl dG]; decide)]
        exact fun d hd => (by obtain rfl : 24 = d := Option.some.inj hd; exact rfl)
      | 18, ho =>
        simp only [List.getElem?_toArray, List.getElem?_cons_zero, List.getElem?_cons_succ, Option.some.injEq] at ho
        subst ho
        have dG := hdep ⟨16, .guard⟩ (by simp) rfl _ rfl 23 rfl
        change ρ (.tmp 23) = _ at dG
        rw [if_neg (by rw [wantR_some rfl rfl rfl dG]; decide)]
        exact fun d hd => (by obtain rfl : 25 = d := Option.some.inj hd; exact rfl)
      | 19, ho =>
        simp only [List.getElem?_toArray, List.getElem?_cons_zero, List.getElem?_cons_succ, Option.some.injEq] at ho
        subst ho
        have dG := hdep ⟨16, .guard⟩ (by simp) rfl _ rfl 23 rfl
        change ρ (.tmp 23) = _ at dG
        rw [if_neg (by rw [wantR_some rfl rfl rfl dG]; decide)]
        exact fun d hd => (by obtain rfl : 26 = d := Option.some.inj hd; exact rfl)
      | 20, ho =>
        simp only [List.getElem?_toArray, List.getElem?_cons_zero, List.getElem?_cons_succ, Option.some.injEq] at ho
        subst ho
        have dG := hdep ⟨16, .guard⟩ (by simp) rfl _ rfl 23 rfl
        change ρ (.tmp 23) = _ at dG
        rw [if_neg (by rw [wantR_some rfl rfl rfl dG]; decide)]
        exact fun d hd => (by obtain rfl : 27 = d := Option.some.inj hd; exact rfl)
      | 21, ho =>
        simp only [List.getElem?_toArray, List.getElem?_cons_zero, List.getElem?_cons_succ, Option.some.injEq] at ho
        subst ho
        have dG := hdep ⟨20, .guard⟩ (by simp) rfl _ rfl 27 rfl
        change ρ (.tmp 27) = _ at dG
        rw [if_neg (by rw [wantR_undef rfl rfl rfl dG]; decide)]
        exact fun d hd => (by obtain rfl : 28 = d := Option.some.inj hd; exact rfl)
      | 22, ho =>
        simp only [List.getElem?_toArray, List.getElem?_cons_zero, List.getElem?_cons_succ, Option.some.injEq] at ho
        subst ho
        have dG := hdep ⟨20, .guard⟩ (by simp) rfl _ rfl 27 rfl
        change ρ (.tmp 27) = _ at dG
        rw [if_neg (by rw [wantR_undef rfl rfl rfl dG]; decide)]
        exact fun d hd => (by obtain rfl : 29 = d := Option.some.inj hd; exact rfl)
      | 23, ho =>
        simp only [List.getElem?_toArray, List.getElem?_cons_zero, List.getElem?_cons_succ, Option.some.injEq] at ho
        subst ho
        have dG := hdep ⟨20, .guard⟩ (by simp) rfl _ rfl 27 rfl
        change ρ (.tmp 27) = _ at dG
        rw [if_neg (by rw [wantR_undef rfl rfl rfl dG]; decide)]
        exact fun d hd => (by obtain rfl : 30 = d := Option.some.inj hd; exact rfl)
      | 24, ho =>
        simp only [List.getElem?_toArray, List.getElem?_cons_zero, List.getElem?_cons_succ, Option.some.injEq] at ho
        subst ho
        have dG := hdep ⟨16, .guard⟩ (by simp) rfl _ rfl 23 rfl
        change ρ (.tmp 23) = _ at dG
        rw [if_neg (by rw [wantR_some rfl rfl rfl dG]; decide)]
        exact fun d hd => (by obtain rfl : 31 = d := Option.some.inj hd; exact rfl)
      | 25, ho =>
        simp only [List.getElem?_toArray, List.getElem?_cons_zero, List.getElem?_cons_succ, Option.some.injEq] at ho
        subst ho
        rw [if_pos (wantR_none rfl)]
        have d23 := hdep ⟨16, .data⟩ (by simp) rfl _ rfl 23 rfl
        change ρ (.tmp 23) = _ at d23
        have d31 := hdep ⟨24, .data⟩ (by simp) rfl _ rfl 31 rfl
        change ρ (.tmp 31) = _ at d31
        generalize hR : (fun (u : Value) (w' : World) => Below w9.heap.size w9 w' ∧ _) = R
        clear hout hcon hdep
        go_simp
        subst hR
        exact ⟨hCx, fun s u h => h, fun d hd => (by obtain rfl : 32 = d := Option.some.inj hd; exact rfl)⟩
      | n + 26, ho => exact absurd ho (by simp)
    · intro uz wA hCA hg
      have qA : uz 32 = .bool true := hg 25 _ rfl 32 rfl
      generalize hds : dstsOf _ = ds
      obtain rfl : ds = [7, 8, 9, 10, 11, 12, 13, 14, 15, 16, 17, 18, 19, 20, 21, 22, 23, 24, 25, 26, 27, 28, 29, 30, 31, 32] := hds.symm.trans rfl
      simp only [List.foldl_cons, List.foldl_nil, List.setIfInBounds_toArray, List.set_cons_zero, List.set_cons_succ]
      rw [qA]
      clear hg qA
      have HBA := Lib.hid (HB9.out.trans (hCA.mono HB9.out.size))
      have HNO := Lib.hid (textB_none HK.out)
      clear hCA
      go_wp2_with fail
      go_ret2
      exact textPost_no HNO.out HBA.out
  case true =>
  have HK := Lib.hid hk
  have hus := uses_some hk
  obtain ⟨_, hk1, hk22⟩ := hus
  have dt : (u.toList == []) = false := by rw [HSO.out, hk]; rfl
  clear hk
  obtain ⟨m, hm⟩ : ∃ x, c.same (trimF c) = x := ⟨_, rfl⟩
  have HSM := Lib.hid (fun wx TB tc (h : IntRow wx A c.reqs) (hi : IntRow wx TB (trimF c).reqs) => hm ▸ rcallSame_any c (trimF c) A TB cap tc wx h hi (by have := HL.out; omega) (by have := HL.out; have := trimF_len HC.out.op; omega))
  have HM := Lib.hid hm
  have HTR := Lib.hid (trim_same c HC.out.op)
  clear hm
  cases m
  case false =>
    refine wp_region_relg (fun w' => Below w9.heap.size w9 w') (goodBy [(7, .is (.pointer (some ⟨w.heap.size, 0, none⟩))), (8, .is (.int .u8 c.kind)), (9, .is (.string u)), (10, .is (.bool false)), (11, .is (.bool false)), (12, .is (.agg (clCells c A cap))), (13, .is (.agg (clCells c A cap))), (14, .such (TrimGood c) (TrimGood.stay c)), (15, .is (.bool false)), (16, .is (.bool true)), (17, .is (.bool true)), (18, .is (.bool true)), (19, .is undef), (20, .is undef), (21, .is undef), (22, .is (.bool true)), (23, .is (.bool true)), (24, .is undef), (25, .is undef), (26, .is undef), (27, .is undef), (28, .is undef), (29, .is undef), (30, .is undef), (31, .is undef), (32, .is (.bool true))]) (by first | assumption | kernel_rfl) (by first | rfl | kernel_rfl) (Below.refl _ _).drew ?_ ?_
    · intro i o ho ρ wx hCx hout hcon hdep
      have x1 : ρ (.tmp 1) = .pointer (some ⟨w.heap.size, 0, none⟩) := hout 1 (by decide)
      have y0 := cell_later hCx HX9.out.at.g0
      have y1 := cell_later hCx HX9.out.at.g1
      have y2 := cell_later hCx HX9.out.at.g2
      have y3 := cell_later hCx HX9.out.at.g3
      have y4 := cell_later hCx HX9.out.at.g4
      have y5 := cell_later hCx HX9.out.at.g5
      have y6 := cell_later hCx HX9.out.at.g6
      have y7 := cell_later hCx HX9.out.at.g7
      have y8 := cell_later hCx HX9.out.at.g8
      have y9 := cell_later hCx HX9.out.at.g9
      have yA := cell_later hCx HX9.out.at.gA
      have xc : ∀ c : Value, ρ (.const c) = c := fun c => hcon (.const c) (fun t h => by cases h)
      skip
      have xf : ∀ f : FuncId, ρ (.func f) = .func (.func f) #[] #[] := fun f => hcon (.func f) (fun t h => by cases h)
      match i, ho with
      | 0, ho =>
        simp only [List.getElem?_toArray, List.getElem?_cons_zero, List.getElem?_cons_succ, Option.some.injEq] at ho
        subst ho
        rw [if_pos (wantR_none rfl)]
        generalize hR : (fun (u : Value) (w' : World) => Below w9.heap.size w9 w' ∧ _) = R
        clear hout hcon hdep
        go_simp
        subst hR
        exact ⟨hCx, fun s u h => h, fun d hd => (by obtain rfl : 7 = d := Option.some.inj hd; exact rfl)⟩
      | 1, ho =>
        simp only [List.getElem?_toArray, List.getElem?_cons_zero, List.getElem?_cons_succ, Option.some.injEq] at ho
        subst ho
        rw [if_pos (wantR_none rfl)]
        have d7 := hdep ⟨0, .data⟩ (by simp) rfl _ rfl 7 rfl
        change ρ (.tmp 7) = _ at d7
        generalize hR : (fun (u : Value) (w' : World) => Below w9.heap.size w9 w' ∧ _) = R
        clear hout hcon hdep
        go_simp
        subst hR
        exact ⟨hCx, fun s u h => h, fun d hd => (by obtain rfl : 8 = d := Option.some.inj hd; exact rfl)⟩
      | 2, ho =>
        simp only [List.getElem?_toArray, List.getElem?_cons_zero, List.getElem?_cons_succ, Option.some.injEq] at ho
        subst ho
        rw [if_pos (wantR_none rfl)]
        have d8 := hdep ⟨1, .data⟩ (by simp) rfl _ rfl 8 rfl
        change ρ (.tmp 8) = _ at d8
        generalize hR : (fun (u : Value) (w' : World) => Below w9.heap.size w9 w' ∧ _) = R
        clear hout hcon hdep
        go_simp
        rw [stepOk_enter]
        refine (HU.out _).mono ?_
        rintro e w2 ⟨rfl, rfl⟩
        subst hR
        exact ⟨_, rfl, hCx, fun s u h => h, fun d hd => (by obtain rfl : 9 = d := Option.some.inj hd; exact rfl)⟩
      | 3, ho =>
        simp only [List.getElem?_toArray, List.getElem?_cons_zero, List.getElem?_cons_succ, Option.some.injEq] at ho
        subst ho
        rw [if_pos (wantR_none rfl)]
        have d9 := hdep ⟨2, .data⟩ (by simp) rfl _ rfl 9 rfl
        change ρ (.tmp 9) = _ at d9
        generalize hR : (fun (u : Value) (w' : World) => Below w9.heap.size w9 w' ∧ _) = R
        clear hout hcon hdep
        go_simp
        subst hR
        exact ⟨hCx, fun s u h => h, fun d hd => (by obtain rfl : 10 = d := Option.some.inj hd; exact rfl)⟩
      | 4, ho =>
        simp only [List.getElem?_toArray, List.getElem?_cons_zero, List.getElem?_cons_succ, Option.some.injEq] at ho
        subst ho
        rw [if_pos (wantR_none rfl)]
        have d10 := hdep ⟨3, .data⟩ (by simp) rfl _ rfl 10 rfl
        change ρ (.tmp 10) = _ at d10
        generalize hR : (fun (u : Value) (w' : World) => Below w9.heap.size w9 w' ∧ _) = R
        clear hout hcon hdep
        go_simp
        subst hR
        exact ⟨hCx, fun s u h => h, fun d hd => (by obtain rfl : 11 = d := Option.some.inj hd; exact rfl)⟩
      | 5, ho =>
        simp only [List.getElem?_toArray, List.getElem?_cons_zero, List.getElem?_cons_succ, Option.some.injEq] at ho
        subst ho
        have dG := hdep ⟨4, .guard⟩ (by simp) rfl _ rfl 11 rfl
        change ρ (.tmp 11) = _ at dG
        rw [if_pos (by rw [wantR_some rfl rfl rfl dG]; decide)]
        clear dG
        generalize hR : (fun (u : Value) (w' : World) => Below w9.heap.size w9 w' ∧ _) = R
        clear hout hcon hdep
        go_simp
        subst hR
        exact ⟨hCx, fun s u h => h, fun d hd => (by obtain rfl : 12 = d := Option.some.inj hd; exact rfl)⟩
      | 6, ho =>
        simp only [List.getElem?_toArray, List.getElem?_cons_zero, List.getElem?_cons_succ, Option.some.injEq] at ho
        subst ho
        have dG := hdep ⟨4, .guard⟩ (by simp) rfl _ rfl 11 rfl
        change ρ (.tmp 11) = _ at dG
        rw [if_pos (by rw [wantR_some rfl rfl rfl dG]; decide)]
        clear dG
        generalize hR : (fun (u : Value) (w' : World) => Below w9.heap.size w9 w' ∧ _) = R
        clear hout hcon hdep
        go_simp
        subst hR
        exact ⟨hCx, fun s u h => h, fun d hd => (by obtain rfl : 13 = d := Option.some.inj hd; exact rfl)⟩
      | 7, ho =>
        simp only [List.getElem?_toArray, List.getElem?_cons_zero, List.getElem?_cons_succ, Option.some.injEq] at ho
        subst ho
        have dG := hdep ⟨4, .guard⟩ (by simp) rfl _ rfl 11 rfl
        change ρ (.tmp 11) = _ at dG
        rw [if_pos (by rw [wantR_some rfl rfl rfl dG]; decide)]
        clear dG
        have d13 := hdep ⟨6, .data⟩ (by simp) rfl _ rfl 13 rfl
        change ρ (.tmp 13) = _ at d13
        generalize hR : (fun (u : Value) (w' : World) => Below w9.heap.size w9 w' ∧ _) = R
        clear hout hcon hdep
        go_simp
        rw [stepOk_enter]
        refine (rtrim_any c A cap wx (HR9.out.below hCx) (by have := HL.out; omega)).mono ?_
        rintro e w2 ⟨TB, tc, rfl, hi2, hb2⟩
        subst hR
        exact ⟨_, rfl, hCx.trans (hb2.mono hCx.size), goodBy_stay hb2, fun d hd => (by obtain rfl : 14 = d := Option.some.inj hd; exact ⟨TB, tc, by rw [HTR.out], by rw [HTR.out]; exact hi2⟩)⟩
      | 8, ho =>
        simp only [List.getElem?_toArray, List.getElem?_cons_zero, List.getElem?_cons_succ, Option.some.injEq] at ho
        subst ho
        have dG := hdep ⟨4, .guard⟩ (by simp) rfl _ rfl 11 rfl
        change ρ (.tmp 11) = _ at dG
        rw [if_pos (by rw [wantR_some rfl rfl rfl dG]; decide)]
        clear dG
        have d12 := hdep ⟨5, .data⟩ (by simp) rfl _ rfl 12 rfl
        change ρ (.tmp 12) = _ at d12
        have d14 := hdep ⟨7, .data⟩ (by simp) rfl _ rfl 14 rfl
        change (TrimGood c) (ρ (.tmp 14)) wx at d14
        generalize hR : (fun (u : Value) (w' : World) => Below w9.heap.size w9 w' ∧ _) = R
        clear hout hcon hdep
        go_simp
        obtain ⟨TB, tc, ht, hi⟩ := d14
        go_simp
        rw [stepOk_enter]
        refine (HSM.out wx TB tc (HR9.out.below hCx) hi).mono ?_
        rintro e w2 ⟨rfl, hb2⟩
        subst hR
        exact ⟨_, rfl, hCx.trans (hb2.mono hCx.size), goodBy_stay hb2, fun d hd => (by obtain rfl : 15 = d := Option.some.inj hd; exact rfl)⟩
      | 9, ho =>
        simp only [List.getElem?_toArray, List.getElem?_cons_zero, List.getElem?_cons_succ, Option.some.injEq] at ho
        subst ho
        have dG := hdep ⟨4, .guard⟩ (by simp) rfl _ rfl 11 rfl
        change ρ (.tmp 11) = _ at dG
        rw [if_pos (by rw [wantR_some rfl rfl rfl dG]; decide)]
        clear dG
        have d15 := hdep ⟨8, .data⟩ (by simp) rfl _ rfl 15 rfl
        change ρ (.tmp 15) = _ at d15
        generalize hR : (fun (u : Value) (w' : World) => Below w9.heap.size w9 w' ∧ _) = R
        clear hout hcon hdep
        go_simp
        subst hR
        exact ⟨hCx, fun s u h => h, fun d hd => (by obtain rfl : 16 = d := Option.some.inj hd; exact rfl)⟩
      | 10, ho =>
        simp only [List.getElem?_toArray, List.getElem?_cons_zero, List.getElem?_cons_succ, Option.some.injEq] at ho
        subst ho
        rw [if_pos (wantR_none rfl)]
        have d11 := hdep ⟨4, .data⟩ (by simp) rfl _ rfl 11 rfl
        change ρ (.tmp 11) = _ at d11
        have d16 := hdep ⟨9, .data⟩ (by simp) rfl _ rfl 16 rfl
        change ρ (.tmp 16) = _ at d16
        generalize hR : (fun (u : Value) (w' : World) => Below w9.heap.size w9 w' ∧ _) = R
        clear hout hcon hdep
        go_simp
        subst hR
        exact ⟨hCx, fun s u h => h, fun d hd => (by obtain rfl : 17 = d := Option.some.inj hd; exact rfl)⟩
      | 11, ho =>
        simp only [List.getElem?_toArray, List.getElem?_cons_zero, List.getElem?_cons_succ, Option.some.injEq] at ho
        subst ho
        rw [if_pos (wantR_none rfl)]
        have d17 := hdep ⟨10, .data⟩ (by simp) rfl _ rfl 17 rfl
        change ρ (.tmp 17) = _ at d17
        generalize hR : (fun (u : Value) (w' : World) => Below w9.heap.size w9 w' ∧ _) = R
        clear hout hcon hdep
        go_simp
        subst hR
        exact ⟨hCx, fun s u h => h, fun d hd => (by obtain rfl : 18 = d := Option.some.inj hd; exact rfl)⟩
      | 12, ho =>
        simp only [List.getElem?_toArray, List.getElem?_cons_zero, List.getElem?_cons_succ, Option.some.injEq] at ho
        subst ho
        have dG := hdep ⟨11, .guard⟩ (by simp) rfl _ rfl 18 rfl
        change ρ (.tmp 18) = _ at dG
        rw [if_neg (by rw [wantR_some rfl rfl rfl dG]; decide)]
        exact fun d hd => (by obtain rfl : 19 = d := Option.some.inj hd; exact rfl)
      | 13, ho =>
        simp only [List.getElem?_toArray, List.getElem?_cons_zero, List.getElem?_cons_succ, Option.some.injEq] at ho
        subst ho
        have dG := hdep ⟨11, .guard⟩ (by simp) rfl _ rfl 18 rfl
        change ρ (.tmp 18) = _ at dG
        rw [if_neg (by rw [wantR_some rfl rfl rfl dG]; decide)]
        exact fun d hd => (by obtain rfl : 20 = d := Option.some.inj hd; exact rfl)
      | 14, ho =>
        simp only [List.getElem?_toArray, List.getElem?_cons_zero, List.getElem?_cons_succ, Option.some.injEq] at ho
        subst ho
        have dG := hdep ⟨11, .guard⟩ (by simp) rfl _ rfl 18 rfl
        change ρ (.tmp 18) = _ at dG
        rw [if_neg (by rw [wantR_some rfl rfl rfl dG]; decide)]
        exact fun d hd => (by obtain rfl : 21 = d := Option.some.inj hd; exact rfl)
      | 15, ho =>
        simp only [List.getElem?_toArray, List.getElem?_cons_zero, List.getElem?_cons_succ, Option.some.injEq] at ho
        subst ho
        rw [if_pos (wantR_none rfl)]
        have d18 := hdep ⟨11, .data⟩ (by simp) rfl _ rfl 18 rfl
        change ρ (.tmp 18) = _ at d18
        have d21 := hdep ⟨14, .data⟩ (by simp) rfl _ rfl 21 rfl
        change ρ (.tmp 21) = _ at d21
        generalize hR : (fun (u : Value) (w' : World) => Below w9.heap.size w9 w' ∧ _) = R
        clear hout hcon hdep
        go_simp
        subst hR
        exact ⟨hCx, fun s u h => h, fun d hd => (by obtain rfl : 22 = d := Option.some.inj hd; exact rfl)⟩
      | 16, ho =>
        simp only [List.getElem?_toArray, List.getElem?_cons_zero, List.getElem?_cons_succ, Option.some.injEq] at ho
        subst ho
        rw [if_pos (wantR_none rfl)]
        have d22 := hdep ⟨15, .data⟩ (by simp) rfl _ rfl 22 rfl
        change ρ (.tmp 22) = _ at d22
        generalize hR : (fun (u : Value) (w' : World) => Below w9.heap.size w9 w' ∧ _) = R
        clear hout hcon hdep
        go_simp
        subst hR
        exact ⟨hCx, fun s u h => h, fun d hd => (by obtain rfl : 23 = d := Option.some.inj hd; exact rfl)⟩
      | 17, ho =>
        simp only [List.getElem?_toArray, List.getElem?_cons_zero, List.getElem?_cons_succ, Option.some.injEq] at ho
        subst ho
        have dG := hdep ⟨16, .guard⟩ (by simp) rfl _ rfl 23 rfl
        change ρ (.tmp 23) = _ at dG
        rw [if_neg (by rw [wantR_some rfl rfl rfl dG]; decide)]
        exact fun d hd => (by obtain rfl : 24 = d := Option.some.inj hd; exact rfl)
      | 18, ho =>
        simp only [List.getElem?_toArray, List.getElem?_cons_zero, List.getElem?_cons_succ, Option.some.injEq] at ho
        subst ho
        have dG := hdep ⟨16, .guard⟩ (by simp) rfl _ rfl 23 rfl
        change ρ (.tmp 23) = _ at dG
        rw [if_neg (by rw [wantR_some rfl rfl rfl dG]; decide)]
        exact fun d hd => (by obtain rfl : 25 = d := Option.some.inj hd; exact rfl)
      | 19, ho =>
        simp only [List.getElem?_toArray, List.getElem?_cons_zero, List.getElem?_cons_succ, Option.some.injEq] at ho
        subst ho
        have dG := hdep ⟨16, .guard⟩ (by simp) rfl _ rfl 23 rfl
        change ρ (.tmp 23) = _ at dG
        rw [if_neg (by rw [wantR_some rfl rfl rfl dG]; decide)]
        exact fun d hd => (by obtain rfl : 26 = d := Option.some.inj hd; exact rfl)
      | 20, ho =>
        simp only [List.getElem?_toArray, List.getElem?_cons_zero, List.getElem?_cons_succ, Option.some.injEq] at ho
        subst ho
        have dG := hdep ⟨16, .guard⟩ (by simp) rfl _ rfl 23 rfl
        change ρ (.tmp 23) = _ at dG
        rw [if_neg (by rw [wantR_some rfl rfl rfl dG]; decide)]
        exact fun d hd => (by obtain rfl : 27 = d := Option.some.inj hd; exact rfl)
      | 21, ho =>
        simp only [List.getElem?_toArray, List.getElem?_cons_zero, List.getElem?_cons_succ, Option.some.injEq] at ho
        subst ho
        have dG := hdep ⟨20, .guard⟩ (by simp) rfl _ rfl 27 rfl
        change ρ (.tmp 27) = _ at dG
        rw [if_neg (by rw [wantR_undef rfl rfl rfl dG]; decide)]
        exact fun d hd => (by obtain rfl : 28 = d := Option.some.inj hd; exact rfl)
      | 22, ho =>
        simp only [List.getElem?_toArray, List.getElem?_cons_zero, List.getElem?_cons_succ, Option.some.injEq] at ho
        subst ho
        have dG := hdep ⟨20, .guard⟩ (by simp) rfl _ rfl 27 rfl
        change ρ (.tmp 27) = _ at dG
        rw [if_neg (by rw [wantR_undef rfl rfl rfl dG]; decide)]
        exact fun d hd => (by obtain rfl : 29 = d := Option.some.inj hd; exact rfl)
      | 23, ho =>
        simp only [List.getElem?_toArray, List.getElem?_cons_zero, List.getElem?_cons_succ, Option.some.injEq] at ho
        subst ho
        have dG := hdep ⟨20, .guard⟩ (by simp) rfl _ rfl 27 rfl
        change ρ (.tmp 27) = _ at dG
        rw [if_neg (by rw [wantR_undef rfl rfl rfl dG]; decide)]
        exact fun d hd => (by obtain rfl : 30 = d := Option.some.inj hd; exact rfl)
      | 24, ho =>
        simp only [List.getElem?_toArray, List.getElem?_cons_zero, List.getElem?_cons_succ, Option.some.injEq] at ho
        subst ho
        have dG := hdep ⟨16, .guard⟩ (by simp) rfl _ rfl 23 rfl
        change ρ (.tmp 23) = _ at dG
        rw [if_neg (by rw [wantR_some rfl rfl rfl dG]; decide)]
        exact fun d hd => (by obtain rfl : 31 = d := Option.some.inj hd; exact rfl)
      | 25, ho =>
        simp only [List.getElem?_toArray, List.getElem?_cons_zero, List.getElem?_cons_succ, Option.some.injEq] at ho
        subst ho
        rw [if_pos (wantR_none rfl)]
        have d23 := hdep ⟨16, .data⟩ (by simp) rfl _ rfl 23 rfl
        change ρ (.tmp 23) = _ at d23
        have d31 := hdep ⟨24, .data⟩ (by simp) rfl _ rfl 31 rfl
        change ρ (.tmp 31) = _ at d31
        generalize hR : (fun (u : Value) (w' : World) => Below w9.heap.size w9 w' ∧ _) = R
        clear hout hcon hdep
        go_simp
        subst hR
        exact ⟨hCx, fun s u h => h, fun d hd => (by obtain rfl : 32 = d := Option.some.inj hd; exact rfl)⟩
      | n + 26, ho => exact absurd ho (by simp)
    · intro uz wA hCA hg
      have qA : uz 32 = .bool true := hg 25 _ rfl 32 rfl
      generalize hds : dstsOf _ = ds
      obtain rfl : ds = [7, 8, 9, 10, 11, 12, 13, 14, 15, 16, 17, 18, 19, 20, 21, 22, 23, 24, 25, 26, 27, 28, 29, 30, 31, 32] := hds.symm.trans rfl
      simp only [List.foldl_cons, List.foldl_nil, List.setIfInBounds_toArray, List.set_cons_zero, List.set_cons_succ]
      rw [qA]
      clear hg qA
      have HBA := Lib.hid (HB9.out.trans (hCA.mono HB9.out.size))
      have HNO := Lib.hid (textB_same HM.out)
      clear hCA
      go_wp2_with fail
      go_ret2
      exact textPost_no HNO.out HBA.out
  case true =>
  by_cases ho : c.op ≤ 2
  case neg =>
    have hd2 : decide (2 < c.op) = true := by simp; omega
    have HNO1 := Lib.hid (textB_op ho)
    clear ho
    refine wp_region_relg (fun w' => Below w9.heap.size w9 w') (goodBy [(7, .is (.pointer (some ⟨w.heap.size, 0, none⟩))), (8, .is (.int .u8 c.kind)), (9, .is (.string u)), (10, .is (.bool false)), (11, .is (.bool false)), (12, .is (.agg (clCells c A cap))), (13, .is (.agg (clCells c A cap))), (14, .such (TrimGood c) (TrimGood.stay c)), (15, .is (.bool true)), (16, .is (.bool false)), (17, .is (.bool false)), (18, .is (.bool false)), (19, .is (.pointer (some ⟨w.heap.size, 7, none⟩))), (20, .is (.int .u8 c.op)), (21, .is (.bool true)), (22, .is (.bool true)), (23, .is (.bool true)), (24, .is undef), (25, .is undef), (26, .is undef), (27, .is undef), (28, .is undef), (29, .is undef), (30, .is undef), (31, .is undef), (32, .is (.bool true))]) (by first | assumption | kernel_rfl) (by first | rfl | kernel_rfl) (Below.refl _ _).drew ?_ ?_
    · intro i o ho ρ wx hCx hout hcon hdep
      have x1 : ρ (.tmp 1) = .pointer (some ⟨w.heap.size, 0, none⟩) := hout 1 (by decide)
      have y0 := cell_later hCx HX9.out.at.g0
      have y1 := cell_later hCx HX9.out.at.g1
      have y2 := cell_later hCx HX9.out.at.g2
      have y3 := cell_later hCx HX9.out.at.g3
      have y4 := cell_later hCx HX9.out.at.g4
      have y5 := cell_later hCx HX9.out.at.g5
      have y6 := cell_later hCx HX9.out.at.g6
      have y7 := cell_later hCx HX9.out.at.g7
      have y8 := cell_later hCx HX9.out.at.g8
      have y9 := cell_later hCx HX9.out.at.g9
      have yA := cell_later hCx HX9.out.at.gA
      have xc : ∀ c : Value, ρ (.const c) = c := fun c => hcon (.const c) (fun t h => by cases h)
      skip
      have xf : ∀ f : FuncId, ρ (.func f) = .func (.func f) #[] #[] := fun f => hcon (.func f) (fun t h => by cases h)
      match i, ho with
      | 0, ho =>
        simp only [List.getElem?_toArray, List.getElem?_cons_zero, List.getElem?_cons_succ, Option.some.injEq] at ho
        subst ho
        rw [if_pos (wantR_none rfl)]
        generalize hR : (fun (u : Value) (w' : World) => Below w9.heap.size w9 w' ∧ _) = R
        clear hout hcon hdep
        go_simp
        subst hR
        exact ⟨hCx, fun s u h => h, fun d hd => (by obtain rfl : 7 = d := Option.some.inj hd; exact rfl)⟩
      | 1, ho =>
        simp only [List.getElem?_toArray, List.getElem?_cons_zero, List.getElem?_cons_succ, Option.some.injEq] at ho
        subst ho
        rw [if_pos (wantR_none rfl)]
        have d7 := hdep ⟨0, .data⟩ (by simp) rfl _ rfl 7 rfl
        change ρ (.tmp 7) = _ at d7
        generalize hR : (fun (u : Value) (w' : World) => Below w9.heap.size w9 w' ∧ _) = R
        clear hout hcon hdep
        go_simp
        subst hR
        exact ⟨hCx, fun s u h => h, fun d hd => (by obtain rfl : 8 = d := Option.some.inj hd; exact rfl)⟩
      | 2, ho =>
        simp only [List.getElem?_toArray, List.getElem?_cons_zero, List.getElem?_cons_succ, Option.some.injEq] at ho
        subst ho
        rw [if_pos (wantR_none rfl)]
        have d8 := hdep ⟨1, .data⟩ (by simp) rfl _ rfl 8 rfl
        change ρ (.tmp 8) = _ at d8
        generalize hR : (fun (u : Value) (w' : World) => Below w9.heap.size w9 w' ∧ _) = R
        clear hout hcon hdep
        go_simp
        rw [stepOk_enter]
        refine (HU.out _).mono ?_
        rintro e w2 ⟨rfl, rfl⟩
        subst hR
        exact ⟨_, rfl, hCx, fun s u h => h, fun d hd => (by obtain rfl : 9 = d := Option.some.inj hd; exact rfl)⟩
      | 3, ho =>
        simp only [List.getElem?_toArray, List.getElem?_cons_zero, List.getElem?_cons_succ, Option.some.injEq] at ho
        subst ho
        rw [if_pos (wantR_none rfl)]
        have d9 := hdep ⟨2, .data⟩ (by simp) rfl _ rfl 9 rfl
        change ρ (.tmp 9) = _ at d9
        generalize hR : (fun (u : Value) (w' : World) => Below w9.heap.size w9 w' ∧ _) = R
        clear hout hcon hdep
        go_simp
        subst hR
        exact ⟨hCx, fun s u h => h, fun d hd => (by obtain rfl : 10 = d := Option.some.inj hd; exact rfl)⟩
      | 4, ho =>
        simp only [List.getElem?_toArray, List.getElem?_cons_zero, List.getElem?_cons_succ, Option.some.injEq] at ho
        subst ho
        rw [if_pos (wantR_none rfl)]
        have d10 := hdep ⟨3, .data⟩ (by simp) rfl _ rfl 10 rfl
        change ρ (.tmp 10) = _ at d10
        generalize hR : (fun (u : Value) (w' : World) => Below w9.heap.size w9 w' ∧ _) = R
        clear hout hcon hdep
        go_simp
        subst hR
        exact ⟨hCx, fun s u h => h, fun d hd => (by obtain rfl : 11 = d := Option.some.inj hd; exact rfl)⟩
      | 5, ho =>
        simp only [List.getElem?_toArray, List.getElem?_cons_zero, List.getElem?_cons_succ, Option.some.injEq] at ho
        subst ho
        have dG := hdep ⟨4, .guard⟩ (by simp) rfl _ rfl 11 rfl
        change ρ (.tmp 11) = _ at dG
        rw [if_pos (by rw [wantR_some rfl rfl rfl dG]; decide)]
        clear dG
        generalize hR : (fun (u : Value) (w' : World) => Below w9.heap.size w9 w' ∧ _) = R
        clear hout hcon hdep
        go_simp
        subst hR
        exact ⟨hCx, fun s u h => h, fun d hd => (by obtain rfl : 12 = d := Option.some.inj hd; exact rfl)⟩
      | 6, ho =>
        simp only [List.getElem?_toArray, List.getElem?_cons_zero, List.getElem?_cons_succ, Option.some.injEq] at ho
        subst ho
        have dG := hdep ⟨4, .guard⟩ (by simp) rfl _ rfl 11 rfl
        change ρ (.tmp 11) = _ at dG
        rw [if_pos (by rw [wantR_some rfl rfl rfl dG]; decide)]
        clear dG
        generalize hR : (fun (u : Value) (w' : World) => Below w9.heap.size w9 w' ∧ _) = R
        clear hout hcon hdep
        go_simp
        subst hR
        exact ⟨hCx, fun s u h => h, fun d hd => (by obtain rfl : 13 = d := Option.some.inj hd; exact rfl)⟩
      | 7, ho =>
        simp only [List.getElem?_toArray, List.getElem?_cons_zero, List.getElem?_cons_succ, Option.some.injEq] at ho
        subst ho
        have dG := hdep ⟨4, .guard⟩ (by simp) rfl _ rfl 11 rfl
        change ρ (.tmp 11) = _ at dG
        rw [if_pos (by rw [wantR_some rfl rfl rfl dG]; decide)]
        clear dG
        have d13 := hdep ⟨6, .data⟩ (by simp) rfl _ rfl 13 rfl
        change ρ (.tmp 13) = _ at d13
        generalize hR : (fun (u : Value) (w' : World) => Below w9.heap.size w9 w' ∧ _) = R
        clear hout hcon hdep
        go_simp
        rw [stepOk_enter]
        refine (rtrim_any c A cap wx (HR9.out.below hCx) (by have := HL.out; omega)).mono ?_
        rintro e w2 ⟨TB, tc, rfl, hi2, hb2⟩
        subst hR
        exact ⟨_, rfl, hCx.trans (hb2.mono hCx.size), goodBy_stay hb2, fun d hd => (by obtain rfl : 14 = d := Option.some.inj hd; exact ⟨TB, tc, by rw [HTR.out], by rw [HTR.out]; exact hi2⟩)⟩
      | 8, ho =>
        simp only [List.getElem?_toArray, List.getElem?_cons_zero, List.getElem?_cons_succ, Option.some.injEq] at ho
        subst ho
        have dG := hdep ⟨4, .guard⟩ (by simp) rfl _ rfl 11 rfl
        change ρ (.tmp 11) = _ at dG
        rw [if_pos (by rw [wantR_some rfl rfl rfl dG]; decide)]
        clear dG
        have d12 := hdep ⟨5, .data⟩ (by simp) rfl _ rfl 12 rfl
        change ρ (.tmp 12) = _ at d12
        have d14 := hdep ⟨7, .data⟩ (by simp) rfl _ rfl 14 rfl
        change (TrimGood c) (ρ (.tmp 14)) wx at d14
        generalize hR : (fun (u : Value) (w' : World) => Below w9.heap.size w9 w' ∧ _) = R
        clear hout hcon hdep
        go_simp
        obtain ⟨TB, tc, ht, hi⟩ := d14
        go_simp
        rw [stepOk_enter]
        refine (HSM.out wx TB tc (HR9.out.below hCx) hi).mono ?_
        rintro e w2 ⟨rfl, hb2⟩
        subst hR
        exact ⟨_, rfl, hCx.trans (hb2.mono hCx.size), goodBy_stay hb2, fun d hd => (by obtain rfl : 15 = d := Option.some.inj hd; exact rfl)⟩
      | 9, ho =>
        simp only [List.getElem?_toArray, List.getElem?_cons_zero, List.getElem?_cons_succ, Option.some.injEq] at ho
        subst ho
        have dG := hdep ⟨4, .guard⟩ (by simp) rfl _ rfl 11 rfl
        change ρ (.tmp 11) = _ at dG
        rw [if_pos (by rw [wantR_some rfl rfl rfl dG]; decide)]
        clear dG
        have d15 := hdep ⟨8, .data⟩ (by simp) rfl _ rfl 15 rfl
        change ρ (.tmp 15) = _ at d15
        generalize hR : (fun (u : Value) (w' : World) => Below w9.heap.size w9 w' ∧ _) = R
        clear hout hcon hdep
        go_simp
        subst hR
        exact ⟨hCx, fun s u h => h, fun d hd => (by obtain rfl : 16 = d := Option.some.inj hd; exact rfl)⟩
      | 10, ho =>
        simp only [List.getElem?_toArray, List.getElem?_cons_zero, List.getElem?_cons_succ, Option.some.injEq] at ho
        subst ho
        rw [if_pos (wantR_none rfl)]
        have d11 := hdep ⟨4, .data⟩ (by simp) rfl _ rfl 11 rfl
        change ρ (.tmp 11) = _ at d11
        have d16 := hdep ⟨9, .data⟩ (by simp) rfl _ rfl 16 rfl
        change ρ (.tmp 16) = _ at d16
        generalize hR : (fun (u : Value) (w' : World) => Below w9.heap.size w9 w' ∧ _) = R
        clear hout hcon hdep
        go_simp
        subst hR
        exact ⟨hCx, fun s u h => h, fun d hd => (by obtain rfl : 17 = d := Option.some.inj hd; exact rfl)⟩
      | 11, ho =>
        simp only [List.getElem?_toArray, List.getElem?_cons_zero, List.getElem?_cons_succ, Option.some.injEq] at ho
        subst ho
        rw [if_pos (wantR_none rfl)]
        have d17 := hdep ⟨10, .data⟩ (by simp) rfl _ rfl 17 rfl
        change ρ (.tmp 17) = _ at d17
        generalize hR : (fun (u : Value) (w' : World) => Below w9.heap.size w9 w' ∧ _) = R
        clear hout hcon hdep
        go_simp
        subst hR
        exact ⟨hCx, fun s u h => h, fun d hd => (by obtain rfl : 18 = d := Option.some.inj hd; exact rfl)⟩
      | 12, ho =>
        simp only [List.getElem?_toArray, List.getElem?_cons_zero, List.getElem?_cons_succ, Option.some.injEq] at ho
        subst ho
        have dG := hdep ⟨11, .guard⟩ (by simp) rfl _ rfl 18 rfl
        change ρ (.tmp 18) = _ at dG
        rw [if_pos (by rw [wantR_some rfl rfl rfl dG]; decide)]
        clear dG
        generalize hR : (fun (u : Value) (w' : World) => Below w9.heap.size w9 w' ∧ _) = R
        clear hout hcon hdep
        go_simp
        subst hR
        exact ⟨hCx, fun s u h => h, fun d hd => (by obtain rfl : 19 = d := Option.some.inj hd; exact rfl)⟩
      | 13, ho =>
        simp only [List.getElem?_toArray, List.getElem?_cons_zero, List.getElem?_cons_succ, Option.some.injEq] at ho
        subst ho
        have dG := hdep ⟨11, .guard⟩ (by simp) rfl _ rfl 18 rfl
        change ρ (.tmp 18) = _ at dG
        rw [if_pos (by rw [wantR_some rfl rfl rfl dG]; decide)]
        clear dG
        have d19 := hdep ⟨12, .data⟩ (by simp) rfl _ rfl 19 rfl
        change ρ (.tmp 19) = _ at d19
        generalize hR : (fun (u : Value) (w' : World) => Below w9.heap.size w9 w' ∧ _) = R
        clear hout hcon hdep
        go_simp
        subst hR
        exact ⟨hCx, fun s u h => h, fun d hd => (by obtain rfl : 20 = d := Option.some.inj hd; exact rfl)⟩
      | 14, ho =>
        simp only [List.getElem?_toArray, List.getElem?_cons_zero, List.getElem?_cons_succ, Option.some.injEq] at ho
        subst ho
        have dG := hdep ⟨11, .guard⟩ (by simp) rfl _ rfl 18 rfl
        change ρ (.tmp 18) = _ at dG
        rw [if_pos (by rw [wantR_some rfl rfl rfl dG]; decide)]
        clear dG
        have d20 := hdep ⟨13, .data⟩ (by simp) rfl _ rfl 20 rfl
        change ρ (.tmp 20) = _ at d20
        generalize hR : (fun (u : Value) (w' : World) => Below w9.heap.size w9 w' ∧ _) = R
        clear hout hcon hdep
        go_simp
        subst hR
        exact ⟨hCx, fun s u h => h, fun d hd => (by obtain rfl : 21 = d := Option.some.inj hd; exact rfl)⟩
      | 15, ho =>
        simp only [List.getElem?_toArray, List.getElem?_cons_zero, List.getElem?_cons_succ, Option.some.injEq] at ho
        subst ho
        rw [if_pos (wantR_none rfl)]
        have d18 := hdep ⟨11, .data⟩ (by simp) rfl _ rfl 18 rfl
        change ρ (.tmp 18) = _ at d18
        have d21 := hdep ⟨14, .data⟩ (by simp) rfl _ rfl 21 rfl
        change ρ (.tmp 21) = _ at d21
        generalize hR : (fun (u : Value) (w' : World) => Below w9.heap.size w9 w' ∧ _) = R
        clear hout hcon hdep
        go_simp
        subst hR
        exact ⟨hCx, fun s u h => h, fun d hd => (by obtain rfl : 22 = d := Option.some.inj hd; exact rfl)⟩
      | 16, ho =>
        simp only [List.getElem?_toArray, List.getElem?_cons_zero, List.getElem?_cons_succ, Option.some.injEq] at ho
        subst ho
        rw [if_pos (wantR_none rfl)]
        have d22 := hdep ⟨15, .data⟩ (by simp) rfl _ rfl 22 rfl
        change ρ (.tmp 22) = _ at d22
        generalize hR : (fun (u : Value) (w' : World) => Below w9.heap.size w9 w' ∧ _) = R
        clear hout hcon hdep
        go_simp
        subst hR
        exact ⟨hCx, fun s u h => h, fun d hd => (by obtain rfl : 23 = d := Option.some.inj hd; exact rfl)⟩
      | 17, ho =>
        simp only [List.getElem?_toArray, List.getElem?_cons_zero, List.getElem?_cons_succ, Option.some.injEq] at ho
        subst ho
        have dG := hdep ⟨16, .guard⟩ (by simp) rfl _ rfl 23 rfl
        change ρ (.tmp 23) = _ at dG
        rw [if_neg (by rw [wantR_some rfl rfl rfl dG]; decide)]
        exact fun d hd => (by obtain rfl : 24 = d := Option.some.inj hd; exact rfl)
      | 18, ho =>
        simp only [List.getElem?_toArray, List.getElem?_cons_zero, List.getElem?_cons_succ, Option.some.injEq] at ho
        subst ho
        have dG := hdep ⟨16, .guard⟩ (by simp) rfl _ rfl 23 rfl
        change ρ (.tmp 23) = _ at dG
        rw [if_neg (by rw [wantR_some rfl rfl rfl dG]; decide)]
        exact fun d hd => (by obtain rfl : 25 = d := Option.some.inj hd; exact rfl)
      | 19, ho =>
        simp only [List.getElem?_toArray, List.getElem?_cons_zero, List.getElem?_cons_succ, Option.some.injEq] at ho
        subst ho
        have dG := hdep ⟨16, .guard⟩ (by simp) rfl _ rfl 23 rfl
        change ρ (.tmp 23) = _ at dG
        rw [if_neg (by rw [wantR_some rfl rfl rfl dG]; decide)]
        exact fun d hd => (by obtain rfl : 26 = d := Option.some.inj hd; exact rfl)
      | 20, ho =>
        simp only [List.getElem?_toArray, List.getElem?_cons_zero, List.getElem?_cons_succ, Option.some.injEq] at ho
        subst ho
        have dG := hdep ⟨16, .guard⟩ (by simp) rfl _ rfl 23 rfl
        change ρ (.tmp 23) = _ at dG
        rw [if_neg (by rw [wantR_some rfl rfl rfl dG]; decide)]
        exact fun d hd => (by obtain rfl : 27 = d := Option.some.inj hd; exact rfl)
      | 21, ho =>
        simp only [List.getElem?_toArray, List.getElem?_cons_zero, List.getElem?_cons_succ, Option.some.injEq] at ho
        subst ho
        have dG := hdep ⟨20, .guard⟩ (by simp) rfl _ rfl 27 rfl
        change ρ (.tmp 27) = _ at dG
        rw [if_neg (by rw [wantR_undef rfl rfl rfl dG]; decide)]
        exact fun d hd => (by obtain rfl : 28 = d := Option.some.inj hd; exact rfl)
      | 22, ho =>
        simp only [List.getElem?_toArray, List.getElem?_cons_zero, List.getElem?_cons_succ, Option.some.injEq] at ho
        subst ho
        have dG := hdep ⟨20, .guard⟩ (by simp) rfl _ rfl 27 rfl
        change ρ (.tmp 27) = _ at dG
        rw [if_neg (by rw [wantR_undef rfl rfl rfl dG]; decide)]
        exact fun d hd => (by obtain rfl : 29 = d := Option.some.inj hd; exact rfl)
      | 23, ho =>
        simp only [List.getElem?_toArray, List.getElem?_cons_zero, List.getElem?_cons_succ, Option.some.injEq] at ho
        subst ho
        have dG := hdep ⟨20, .guard⟩ (by simp) rfl _ rfl 27 rfl
        change ρ (.tmp 27) = _ at dG
        rw [if_neg (by rw [wantR_undef rfl rfl rfl dG]; decide)]
        exact fun d hd => (by obtain rfl : 30 = d := Option.some.inj hd; exact rfl)
      | 24, ho =>
        simp only [List.getElem?_toArray, List.getElem?_cons_zero, List.getElem?_cons_succ, Option.some.injEq] at ho
        subst ho
        have dG := hdep ⟨16, .guard⟩ (by simp) rfl _ rfl 23 rfl
        change ρ (.tmp 23) = _ at dG
        rw [if_neg (by rw [wantR_some rfl rfl rfl dG]; decide)]
        exact fun d hd => (by obtain rfl : 31 = d := Option.some.inj hd; exact rfl)
      | 25, ho =>
        simp only [List.getElem?_toArray, List.getElem?_cons_zero, List.getElem?_cons_succ, Option.some.injEq] at ho
        subst ho
        rw [if_pos (wantR_none rfl)]
        have d23 := hdep ⟨16, .data⟩ (by simp) rfl _ rfl 23 rfl
        change ρ (.tmp 23) = _ at d23
        have d31 := hdep ⟨24, .data⟩ (by simp) rfl _ rfl 31 rfl
        change ρ (.tmp 31) = _ at d31
        generalize hR : (fun (u : Value) (w' : World) => Below w9.heap.size w9 w' ∧ _) = R
        clear hout hcon hdep
        go_simp
        subst hR
        exact ⟨hCx, fun s u h => h, fun d hd => (by obtain rfl : 32 = d := Option.some.inj hd; exact rfl)⟩
      | n + 26, ho => exact absurd ho (by simp)
    · intro uz wA hCA hg
      have qA : uz 32 = .bool true := hg 25 _ rfl 32 rfl
      generalize hds : dstsOf _ = ds
      obtain rfl : ds = [7, 8, 9, 10, 11, 12, 13, 14, 15, 16, 17, 18, 19, 20, 21, 22, 23, 24, 25, 26, 27, 28, 29, 30, 31, 32] := hds.symm.trans rfl
      simp only [List.foldl_cons, List.foldl_nil, List.setIfInBounds_toArray, List.set_cons_zero, List.set_cons_succ]
      rw [qA]
      clear hg qA
      have HBA := Lib.hid (HB9.out.trans (hCA.mono HB9.out.size))
      have HNO := Lib.hid (HNO1.out)
      clear hCA
      go_wp2_with fail
      go_ret2
      exact textPost_no HNO.out HBA.out
  case pos =>
  have hd2 : decide (2 < c.op) = false := by simp; omega
  have HO := Lib.hid ho
  clear ho
  obtain ⟨li, hli⟩ : ∃ x, listedB c = x := ⟨_, rfl⟩
  have HLI := Lib.hid (fun wx => hli ▸ many_any16 c A cap wx)
  have HLB := Lib.hid hli
  clear hli
  cases h8
  case true =>
    cases li
    case false =>
      refine wp_region_relg (fun w' => Below w9.heap.size w9 w') (goodBy [(7, .is (.pointer (some ⟨w.heap.size, 0, none⟩))), (8, .is (.int .u8 c.kind)), (9, .is (.string u)), (10, .is (.bool false)), (11, .is (.bool false)), (12, .is (.agg (clCells c A cap))), (13, .is (.agg (clCells c A cap))), (14, .such (TrimGood c) (TrimGood.stay c)), (15, .is (.bool true)), (16, .is (.bool false)), (17, .is (.bool false)), (18, .is (.bool false)), (19, .is (.pointer (some ⟨w.heap.size, 7, none⟩))), (20, .is (.int .u8 c.op)), (21, .is (.bool false)), (22, .is (.bool false)), (23, .is (.bool false)), (24, .is (.pointer (some ⟨w.heap.size, 0, none⟩))), (25, .is (.int .u8 c.kind)), (26, .is (.bool true)), (27, .is (.bool true)), (28, .is (.agg (clCells c A cap))), (29, .is (.bool false)), (30, .is (.bool true)), (31, .is (.bool true)), (32, .is (.bool true))]) (by first | assumption | kernel_rfl) (by first | rfl | kernel_rfl) (Below.refl _ _).drew ?_ ?_
      · intro i o ho ρ wx hCx hout hcon hdep
        have x1 : ρ (.tmp 1) = .pointer (some ⟨w.heap.size, 0, none⟩) := hout 1 (by decide)
        have y0 := cell_later hCx HX9.out.at.g0
        have y1 := cell_later hCx HX9.out.at.g1
        have y2 := cell_later hCx HX9.out.at.g2
        have y3 := cell_later hCx HX9.out.at.g3
        have y4 := cell_later hCx HX9.out.at.g4
        have y5 := cell_later hCx HX9.out.at.g5
        have y6 := cell_later hCx HX9.out.at.g6
        have y7 := cell_later hCx HX9.out.at.g7
        have y8 := cell_later hCx HX9.out.at.g8
        have y9 := cell_later hCx HX9.out.at.g9
        have yA := cell_later hCx HX9.out.at.gA
        have xc : ∀ c : Value, ρ (.const c) = c := fun c => hcon (.const c) (fun t h => by cases h)
        skip
        have xf : ∀ f : FuncId, ρ (.func f) = .func (.func f) #[] #[] := fun f => hcon (.func f) (fun t h => by cases h)
        match i, ho with
        | 0, ho =>
          simp only [List.getElem?_toArray, List.getElem?_cons_zero, List.getElem?_cons_succ, Option.some.injEq] at ho
          subst ho
          rw [if_pos (wantR_none rfl)]
          generalize hR : (fun (u : Value) (w' : World) => Below w9.heap.size w9 w' ∧ _) = R
          clear hout hcon hdep
          go_simp
          subst hR
          exact ⟨hCx, fun s u h => h, fun d hd => (by obtain rfl : 7 = d := Option.some.inj hd; exact rfl)⟩
        | 1, ho =>
          simp only [List.getElem?_toArray, List.getElem?_cons_zero, List.getElem?_cons_succ, Option.some.injEq] at ho
          subst ho
          rw [if_pos (wantR_none rfl)]
          have d7 := hdep ⟨0, .data⟩ (by simp) rfl _ rfl 7 rfl
          change ρ (.tmp 7) = _ at d7
          generalize hR : (fun (u : Value) (w' : World) => Below w9.heap.size w9 w' ∧ _) = R
          clear hout hcon hdep
          go_simp
          subst hR
          exact ⟨hCx, fun s u h => h, fun d hd => (by obtain rfl : 8 = d := Option.some.inj hd; exact rfl)⟩
        | 2, ho =>
          simp only [List.getElem?_toArray, List.getElem?_cons_zero, List.getElem?_cons_succ, Option.some.injEq] at ho
          subst ho
          rw [if_pos (wantR_none rfl)]
          have d8 := hdep ⟨1, .data⟩ (by simp) rfl _ rfl 8 rfl
          change ρ (.tmp 8) = _ at d8
          generalize hR : (fun (u : Value) (w' : World) => Below w9.heap.size w9 w' ∧ _) = R
          clear hout hcon hdep
          go_simp
          rw [stepOk_enter]
          refine (HU.out _).mono ?_
          rintro e w2 ⟨rfl, rfl⟩
          subst hR
          exact ⟨_, rfl, hCx, fun s u h => h, fun d hd => (by obtain rfl : 9 = d := Option.some.inj hd; exact rfl)⟩
        | 3, ho =>
          simp only [List.getElem?_toArray, List.getElem?_cons_zero, List.getElem?_cons_succ, Option.some.injEq] at ho
          subst ho
          rw [if_pos (wantR_none rfl)]
          have d9 := hdep ⟨2, .data⟩ (by simp) rfl _ rfl 9 rfl
          change ρ (.tmp 9) = _ at d9
          generalize hR : (fun (u : Value) (w' : World) => Below w9.heap.size w9 w' ∧ _) = R
          clear hout hcon hdep
          go_simp
          subst hR
          exact ⟨hCx, fun s u h => h, fun d hd => (by obtain rfl : 10 = d := Option.some.inj hd; exact rfl)⟩
        | 4, ho =>
          simp only [List.getElem?_toArray, List.getElem?_cons_zero, List.getElem?_cons_succ, Option.some.injEq] at ho
          subst ho
          rw [if_pos (wantR_none rfl)]
          have d10 := hdep ⟨3, .data⟩ (by simp) rfl _ rfl 10 rfl
          change ρ (.tmp 10) = _ at d10
          generalize hR : (fun (u : Value) (w' : World) => Below w9.heap.size w9 w' ∧ _) = R
          clear hout hcon hdep
          go_simp
          subst hR
          exact ⟨hCx, fun s u h => h, fun d hd => (by obtain rfl : 11 = d := Option.some.inj hd; exact rfl)⟩
        | 5, ho =>
          simp only [List.getElem?_toArray, List.getElem?_cons_zero, List.getElem?_cons_succ, Option.some.injEq] at ho
          subst ho
          have dG := hdep ⟨4, .guard⟩ (by simp) rfl _ rfl 11 rfl
          change ρ (.tmp 11) = _ at dG
          rw [if_pos (by rw [wantR_some rfl rfl rfl dG]; decide)]
          clear dG
          generalize hR : (fun (u : Value) (w' : World) => Below w9.heap.size w9 w' ∧ _) = R
          clear hout hcon hdep
          go_simp
          subst hR
          exact ⟨hCx, fun s u h => h, fun d hd => (by obtain rfl : 12 = d := Option.some.inj hd; exact rfl)⟩
        | 6, ho =>
          simp only [List.getElem?_toArray, List.getElem?_cons_zero, List.getElem?_cons_succ, Option.some.injEq] at ho
          subst ho
          have dG := hdep ⟨4, .guard⟩ (by simp) rfl _ rfl 11 rfl
          change ρ (.tmp 11) = _ at dG
          rw [if_pos (by rw [wantR_some rfl rfl rfl dG]; decide)]
          clear dG
          generalize hR : (fun (u : Value) (w' : World) => Below w9.heap.size w9 w' ∧ _) = R
          clear hout hcon hdep
          go_simp
          subst hR
          exact ⟨hCx, fun s u h => h, fun d hd => (by obtain rfl : 13 = d := Option.some.inj hd; exact rfl)⟩
        | 7, ho =>
          simp only [List.getElem?_toArray, List.getElem?_cons_zero, List.getElem?_cons_succ, Option.some.injEq] at ho
          subst ho
          have dG := hdep ⟨4, .guard⟩ (by simp) rfl _ rfl 11 rfl
          change ρ (.tmp 11) = _ at dG
          rw [if_pos (by rw [wantR_some rfl rfl rfl dG]; decide)]
          clear dG
          have d13 := hdep ⟨6, .data⟩ (by simp) rfl _ rfl 13 rfl
          change ρ (.tmp 13) = _ at d13
          generalize hR : (fun (u : Value) (w' : World) => Below w9.heap.size w9 w' ∧ _) = R
          clear hout hcon hdep
          go_simp
          rw [stepOk_enter]
          refine (rtrim_any c A cap wx (HR9.out.below hCx) (by have := HL.out; omega)).mono ?_
          rintro e w2 ⟨TB, tc, rfl, hi2, hb2⟩
          subst hR
          exact ⟨_, rfl, hCx.trans (hb2.mono hCx.size), goodBy_stay hb2, fun d hd => (by obtain rfl : 14 = d := Option.some.inj hd; exact ⟨TB, tc, by rw [HTR.out], by rw [HTR.out]; exact hi2⟩)⟩
        | 8, ho =>
          simp only [List.getElem?_toArray, List.getElem?_cons_zero, List.getElem?_cons_succ, Option.some.injEq] at ho
          subst ho
          have dG := hdep ⟨4, .guard⟩ (by simp) rfl _ rfl 11 rfl
          change ρ (.tmp 11) = _ at dG
          rw [if_pos (by rw [wantR_some rfl rfl rfl dG]; decide)]
          clear dG
          have d12 := hdep ⟨5, .data⟩ (by simp) rfl _ rfl 12 rfl
          change ρ (.tmp 12) = _ at d12
          have d14 := hdep ⟨7, .data⟩ (by simp) rfl _ rfl 14 rfl
          change (TrimGood c) (ρ (.tmp 14)) wx at d14
          generalize hR : (fun (u : Value) (w' : World) => Below w9.heap.size w9 w' ∧ _) = R
          clear hout hcon hdep
          go_simp
          obtain ⟨TB, tc, ht, hi⟩ := d14
          go_simp
          rw [stepOk_enter]
          refine (HSM.out wx TB tc (HR9.out.below hCx) hi).mono ?_
          rintro e w2 ⟨rfl, hb2⟩
          subst hR
          exact ⟨_, rfl, hCx.trans (hb2.mono hCx.size), goodBy_stay hb2, fun d hd => (by obtain rfl : 15 = d := Option.some.inj hd; exact rfl)⟩
        | 9, ho =>
          simp only [List.getElem?_toArray, List.getElem?_cons_zero, List.getElem?_cons_succ, Option.some.injEq] at ho
          subst ho
          have dG := hdep ⟨4, .guard⟩ (by simp) rfl _ rfl 11 rfl
          change ρ (.tmp 11) = _ at dG
          rw [if_pos (by rw [wantR_some rfl rfl rfl dG]; decide)]
          clear dG
          have d15 := hdep ⟨8, .data⟩ (by simp) rfl _ rfl 15 rfl
          change ρ (.tmp 15) = _ at d15
          generalize hR : (fun (u : Value) (w' : World) => Below w9.heap.size w9 w' ∧ _) = R
          clear hout hcon hdep
          go_simp
          subst hR
          exact ⟨hCx, fun s u h => h, fun d hd => (by obtain rfl : 16 = d := Option.some.inj hd; exact rfl)⟩
        | 10, ho =>
          simp only [List.getElem?_toArray, List.getElem?_cons_zero, List.getElem?_cons_succ, Option.some.injEq] at ho
          subst ho
          rw [if_pos (wantR_none rfl)]
          have d11 := hdep ⟨4, .data⟩ (by simp) rfl _ rfl 11 rfl
          change ρ (.tmp 11) = _ at d11
          have d16 := hdep ⟨9, .data⟩ (by simp) rfl _ rfl 16 rfl
          change ρ (.tmp 16) = _ at d16
          generalize hR : (fun (u : Value) (w' : World) => Below w9.heap.size w9 w' ∧ _) = R
          clear hout hcon hdep
          go_simp
          subst hR
          exact ⟨hCx, fun s u h => h, fun d hd => (by obtain rfl : 17 = d := Option.some.inj hd; exact rfl)⟩
        | 11, ho =>
          simp only [List.getElem?_toArray, List.getElem?_cons_zero, List.getElem?_cons_succ, Option.some.injEq] at ho
          subst ho
          rw [if_pos (wantR_none rfl)]
          have d17 := hdep ⟨10, .data⟩ (by simp) rfl _ rfl 17 rfl
          change ρ (.tmp 17) = _ at d17
          generalize hR : (fun (u : Value) (w' : World) => Below w9.heap.size w9 w' ∧ _) = R
          clear hout hcon hdep
          go_simp
          subst hR
          exact ⟨hCx, fun s u h => h, fun d hd => (by obtain rfl : 18 = d := Option.some.inj hd; exact rfl)⟩
        | 12, ho =>
          simp only [List.getElem?_toArray, List.getElem?_cons_zero, List.getElem?_cons_succ, Option.some.injEq] at ho
          subst ho
          have dG := hdep ⟨11, .guard⟩ (by simp) rfl _ rfl 18 rfl
          change ρ (.tmp 18) = _ at dG
          rw [if_pos (by rw [wantR_some rfl rfl rfl dG]; decide)]
          clear dG
          generalize hR : (fun (u : Value) (w' : World) => Below w9.heap.size w9 w' ∧ _) = R
          clear hout hcon hdep
          go_simp
          subst hR
          exact ⟨hCx, fun s u h => h, fun d hd => (by obtain rfl : 19 = d := Option.some.inj hd; exact rfl)⟩
        | 13, ho =>
          simp only [List.getElem?_toArray, List.getElem?_cons_zero, List.getElem?_cons_succ, Option.some.injEq] at ho
          subst ho
          have dG := hdep ⟨11, .guard⟩ (by simp) rfl _ rfl 18 rfl
          change ρ (.tmp 18) = _ at dG
          rw [if_pos (by rw [wantR_some rfl rfl rfl dG]; decide)]
          clear dG
          have d19 := hdep ⟨12, .data⟩ (by simp) rfl _ rfl 19 rfl
          change ρ (.tmp 19) = _ at d19
          generalize hR : (fun (u : Value) (w' : World) => Below w9.heap.size w9 w' ∧ _) = R
          clear hout hcon hdep
          go_simp
          subst hR
          exact ⟨hCx, fun s u h => h, fun d hd => (by obtain rfl : 20 = d := Option.some.inj hd; exact rfl)⟩
        | 14, ho =>
          simp only [List.getElem?_toArray, List.getElem?_cons_zero, List.getElem?_cons_succ, Option.some.injEq] at ho
          subst ho
          have dG := hdep ⟨11, .guard⟩ (by simp) rfl _ rfl 18 rfl
          change ρ (.tmp 18) = _ at dG
          rw [if_pos (by rw [wantR_some rfl rfl rfl dG]; decide)]
          clear dG
          have d20 := hdep ⟨13, .data⟩ (by simp) rfl _ rfl 20 rfl
          change ρ (.tmp 20) = _ at d20
          generalize hR : (fun (u : Value) (w' : World) => Below w9.heap.size w9 w' ∧ _) = R
          clear hout hcon hdep
          go_simp
          subst hR
          exact ⟨hCx, fun s u h => h, fun d hd => (by obtain rfl : 21 = d := Option.some.inj hd; exact rfl)⟩
        | 15, ho =>
          simp only [List.getElem?_toArray, List.getElem?_cons_zero, List.getElem?_cons_succ, Option.some.injEq] at ho
          subst ho
          rw [if_pos (wantR_none rfl)]
          have d18 := hdep ⟨11, .data⟩ (by simp) rfl _ rfl 18 rfl
          change ρ (.tmp 18) = _ at d18
          have d21 := hdep ⟨14, .data⟩ (by simp) rfl _ rfl 21 rfl
          change ρ (.tmp 21) = _ at d21
          generalize hR : (fun (u : Value) (w' : World) => Below w9.heap.size w9 w' ∧ _) = R
          clear hout hcon hdep
          go_simp
          subst hR
          exact ⟨hCx, fun s u h => h, fun d hd => (by obtain rfl : 22 = d := Option.some.inj hd; exact rfl)⟩
        | 16, ho =>
          simp only [List.getElem?_toArray, List.getElem?_cons_zero, List.getElem?_cons_succ, Option.some.injEq] at ho
          subst ho
          rw [if_pos (wantR_none rfl)]
          have d22 := hdep ⟨15, .data⟩ (by simp) rfl _ rfl 22 rfl
          change ρ (.tmp 22) = _ at d22
          generalize hR : (fun (u : Value) (w' : World) => Below w9.heap.size w9 w' ∧ _) = R
          clear hout hcon hdep
          go_simp
          subst hR
          exact ⟨hCx, fun s u h => h, fun d hd => (by obtain rfl : 23 = d := Option.some.inj hd; exact rfl)⟩
        | 17, ho =>
          simp only [List.getElem?_toArray, List.getElem?_cons_zero, List.getElem?_cons_succ, Option.some.injEq] at ho
          subst ho
          have dG := hdep ⟨16, .guard⟩ (by simp) rfl _ rfl 23 rfl
          change ρ (.tmp 23) = _ at dG
          rw [if_pos (by rw [wantR_some rfl rfl rfl dG]; decide)]
          clear dG
          generalize hR : (fun (u : Value) (w' : World) => Below w9.heap.size w9 w' ∧ _) = R
          clear hout hcon hdep
          go_simp
          subst hR
          exact ⟨hCx, fun s u h => h, fun d hd => (by obtain rfl : 24 = d := Option.some.inj hd; exact rfl)⟩
        | 18, ho =>
          simp only [List.getElem?_toArray, List.getElem?_cons_zero, List.getElem?_cons_succ, Option.some.injEq] at ho
          subst ho
          have dG := hdep ⟨16, .guard⟩ (by simp) rfl _ rfl 23 rfl
          change ρ (.tmp 23) = _ at dG
          rw [if_pos (by rw [wantR_some rfl rfl rfl dG]; decide)]
          clear dG
          have d24 := hdep ⟨17, .data⟩ (by simp) rfl _ rfl 24 rfl
          change ρ (.tmp 24) = _ at d24
          generalize hR : (fun (u : Value) (w' : World) => Below w9.heap.size w9 w' ∧ _) = R
          clear hout hcon hdep
          go_simp
          subst hR
          exact ⟨hCx, fun s u h => h, fun d hd => (by obtain rfl : 25 = d := Option.some.inj hd; exact rfl)⟩
        | 19, ho =>
          simp only [List.getElem?_toArray, List.getElem?_cons_zero, List.getElem?_cons_succ, Option.some.injEq] at ho
          subst ho
          have dG := hdep ⟨16, .guard⟩ (by simp) rfl _ rfl 23 rfl
          change ρ (.tmp 23) = _ at dG
          rw [if_pos (by rw [wantR_some rfl rfl rfl dG]; decide)]
          clear dG
          have d25 := hdep ⟨18, .data⟩ (by simp) rfl _ rfl 25 rfl
          change ρ (.tmp 25) = _ at d25
          generalize hR : (fun (u : Value) (w' : World) => Below w9.heap.size w9 w' ∧ _) = R
          clear hout hcon hdep
          go_simp
          rw [stepOk_enter]
          refine (HLL.out _).mono ?_
          rintro e w2 ⟨rfl, rfl⟩
          subst hR
          exact ⟨_, rfl, hCx, fun s u h => h, fun d hd => (by obtain rfl : 26 = d := Option.some.inj hd; exact rfl)⟩
        | 20, ho =>
          simp only [List.getElem?_toArray, List.getElem?_cons_zero, List.getElem?_cons_succ, Option.some.injEq] at ho
          subst ho
          have dG := hdep ⟨16, .guard⟩ (by simp) rfl _ rfl 23 rfl
          change ρ (.tmp 23) = _ at dG
          rw [if_pos (by rw [wantR_some rfl rfl rfl dG]; decide)]
          clear dG
          have d26 := hdep ⟨19, .data⟩ (by simp) rfl _ rfl 26 rfl
          change ρ (.tmp 26) = _ at d26
          generalize hR : (fun (u : Value) (w' : World) => Below w9.heap.size w9 w' ∧ _) = R
          clear hout hcon hdep
          go_simp
          subst hR
          exact ⟨hCx, fun s u h => h, fun d hd => (by obtain rfl : 27 = d := Option.some.inj hd; exact rfl)⟩
        | 21, ho =>
          simp only [List.getElem?_toArray, List.getElem?_cons_zero, List.getElem?_cons_succ, Option.some.injEq] at ho
          subst ho
          have dG := hdep ⟨20, .guard⟩ (by simp) rfl _ rfl 27 rfl
          change ρ (.tmp 27) = _ at dG
          rw [if_pos (by rw [wantR_some rfl rfl rfl dG]; decide)]
          clear dG
          generalize hR : (fun (u : Value) (w' : World) => Below w9.heap.size w9 w' ∧ _) = R
          clear hout hcon hdep
          go_simp
          subst hR
          exact ⟨hCx, fun s u h => h, fun d hd => (by obtain rfl : 28 = d := Option.some.inj hd; exact rfl)⟩
        | 22, ho =>
          simp only [List.getElem?_toArray, List.getElem?_cons_zero, List.getElem?_cons_succ, Option.some.injEq] at ho
          subst ho
          have dG := hdep ⟨20, .guard⟩ (by simp) rfl _ rfl 27 rfl
          change ρ (.tmp 27) = _ at dG
          rw [if_pos (by rw [wantR_some rfl rfl rfl dG]; decide)]
          clear dG
          have d28 := hdep ⟨21, .data⟩ (by simp) rfl _ rfl 28 rfl
          change ρ (.tmp 28) = _ at d28
          generalize hR : (fun (u : Value) (w' : World) => Below w9.heap.size w9 w' ∧ _) = R
          clear hout hcon hdep
          go_simp
          rw [stepOk_enter]
          refine (HLI.out wx).mono ?_
          rintro e w2 ⟨rfl, hb2⟩
          subst hR
          exact ⟨_, rfl, hCx.trans (hb2.mono hCx.size), goodBy_stay hb2, fun d hd => (by obtain rfl : 29 = d := Option.some.inj hd; exact rfl)⟩
        | 23, ho =>
          simp only [List.getElem?_toArray, List.getElem?_cons_zero, List.getElem?_cons_succ, Option.some.injEq] at ho
          subst ho
          have dG := hdep ⟨20, .guard⟩ (by simp) rfl _ rfl 27 rfl
          change ρ (.tmp 27) = _ at dG
          rw [if_pos (by rw [wantR_some rfl rfl rfl dG]; decide)]
          clear dG
          have d29 := hdep ⟨22, .data⟩ (by simp) rfl _ rfl 29 rfl
          change ρ (.tmp 29) = _ at d29
          generalize hR : (fun (u : Value) (w' : World) => Below w9.heap.size w9 w' ∧ _) = R
          clear hout hcon hdep
          go_simp
          subst hR
          exact ⟨hCx, fun s u h => h, fun d hd => (by obtain rfl : 30 = d := Option.some.inj hd; exact rfl)⟩
        | 24, ho =>
          simp only [List.getElem?_toArray, List.getElem?_cons_zero, List.getElem?_cons_succ, Option.some.injEq] at ho
          subst ho
          have dG := hdep ⟨16, .guard⟩ (by simp) rfl _ rfl 23 rfl
          change ρ (.tmp 23) = _ at dG
          rw [if_pos (by rw [wantR_some rfl rfl rfl dG]; decide)]
          clear dG
          have d27 := hdep ⟨20, .data⟩ (by simp) rfl _ rfl 27 rfl
          change ρ (.tmp 27) = _ at d27
          have d30 := hdep ⟨23, .data⟩ (by simp) rfl _ rfl 30 rfl
          change ρ (.tmp 30) = _ at d30
          generalize hR : (fun (u : Value) (w' : World) => Below w9.heap.size w9 w' ∧ _) = R
          clear hout hcon hdep
          go_simp
          subst hR
          exact ⟨hCx, fun s u h => h, fun d hd => (by obtain rfl : 31 = d := Option.some.inj hd; exact rfl)⟩
        | 25, ho =>
          simp only [List.getElem?_toArray, List.getElem?_cons_zero, List.getElem?_cons_succ, Option.some.injEq] at ho
          subst ho
          rw [if_pos (wantR_none rfl)]
          have d23 := hdep ⟨16, .data⟩ (by simp) rfl _ rfl 23 rfl
          change ρ (.tmp 23) = _ at d23
          have d31 := hdep ⟨24, .data⟩ (by simp) rfl _ rfl 31 rfl
          change ρ (.tmp 31) = _ at d31
          generalize hR : (fun (u : Value) (w' : World) => Below w9.heap.size w9 w' ∧ _) = R
          clear hout hcon hdep
          go_simp
          subst hR
          exact ⟨hCx, fun s u h => h, fun d hd => (by obtain rfl : 32 = d := Option.some.inj hd; exact rfl)⟩
        | n + 26, ho => exact absurd ho (by simp)
      · intro uz wA hCA hg
        have qA : uz 32 = .bool true := hg 25 _ rfl 32 rfl
        generalize hds : dstsOf _ = ds
        obtain rfl : ds = [7, 8, 9, 10, 11, 12, 13, 14, 15, 16, 17, 18, 19, 20, 21, 22, 23, 24, 25, 26, 27, 28, 29, 30, 31, 32] := hds.symm.trans rfl
        simp only [List.foldl_cons, List.foldl_nil, List.setIfInBounds_toArray, List.set_cons_zero, List.set_cons_succ]
        rw [qA]
        clear hg qA
        have HBA := Lib.hid (HB9.out.trans (hCA.mono HB9.out.size))
        have HNO := Lib.hid (textB_list ((uses_both c.kind).2.1 HH8.out) HLB.out)
        clear hCA
        go_wp2_with fail
        go_ret2
        exact textPost_no HNO.out HBA.out
    case true =>
      have HYES := Lib.hid (textB_yes HK.out HM.out HO.out (.inr HLB.out))
      refine wp_region_relg (fun w' => Below w9.heap.size w9 w') (goodBy [(7, .is (.pointer (some ⟨w.heap.size, 0, none⟩))), (8, .is (.int .u8 c.kind)), (9, .is (.string u)), (10, .is (.bool false)), (11, .is (.bool false)), (12, .is (.agg (clCells c A cap))), (13, .is (.agg (clCells c A cap))), (14, .such (TrimGood c) (TrimGood.stay c)), (15, .is (.bool true)), (16, .is (.bool false)), (17, .is (.bool false)), (18, .is (.bool false)), (19, .is (.pointer (some ⟨w.heap.size, 7, none⟩))), (20, .is (.int .u8 c.op)), (21, .is (.bool false)), (22, .is (.bool false)), (23, .is (.bool false)), (24, .is (.pointer (some ⟨w.heap.size, 0, none⟩))), (25, .is (.int .u8 c.kind)), (26, .is (.bool true)), (27, .is (.bool true)), (28, .is (.agg (clCells c A cap))), (29, .is (.bool true)), (30, .is (.bool false)), (31, .is (.bool false)), (32, .is (.bool false))]) (by first | assumption | kernel_rfl) (by first | rfl | kernel_rfl) (Below.refl _ _).drew ?_ ?_
      · intro i o ho ρ wx hCx hout hcon hdep
        have x1 : ρ (.tmp 1) = .pointer (some ⟨w.heap.size, 0, none⟩) := hout 1 (by decide)
        have y0 := cell_later hCx HX9.out.at.g0
        have y1 := cell_later hCx HX9.out.at.g1
        have y2 := cell_later hCx HX9.out.at.g2
        have y3 := cell_later hCx HX9.out.at.g3
        have y4 := cell_later hCx HX9.out.at.g4
        have y5 := cell_later hCx HX9.out.at.g5
        have y6 := cell_later hCx HX9.out.at.g6
        have y7 := cell_later hCx HX9.out.at.g7
        have y8 := cell_later hCx HX9.out.at.g8
        have y9 := cell_later hCx HX9.out.at.g9
        have yA := cell_later hCx HX9.out.at.gA
        have xc : ∀ c : Value, ρ (.const c) = c := fun c => hcon (.const c) (fun t h => by cases h)
        skip
        have xf : ∀ f : FuncId, ρ (.func f) = .func (.func f) #[] #[] := fun f => hcon (.func f) (fun t h => by cases h)
        match i, ho with
        | 0, ho =>
          simp only [List.getElem?_toArray, List.getElem?_cons_zero, List.getElem?_cons_succ, Option.some.injEq] at ho
          subst ho
          rw [if_pos (wantR_none rfl)]
          generalize hR : (fun (u : Value) (w' : World) => Below w9.heap.size w9 w' ∧ _) = R
          clear hout hcon hdep
          go_simp
          subst hR
          exact ⟨hCx, fun s u h => h, fun d hd => (by obtain rfl : 7 = d := Option.some.inj hd; exact rfl)⟩
        | 1, ho =>
          simp only [List.getElem?_toArray, List.getElem?_cons_zero, List.getElem?_cons_succ, Option.some.injEq] at ho
          subst ho
          rw [if_pos (wantR_none rfl)]
          have d7 := hdep ⟨0, .data⟩ (by simp) rfl _ rfl 7 rfl
          change ρ (.tmp 7) = _ at d7
          generalize hR : (fun (u : Value) (w' : World) => Below w9.heap.size w9 w' ∧ _) = R
          clear hout hcon hdep
          go_simp
          subst hR
          exact ⟨hCx, fun s u h => h, fun d hd => (by obtain rfl : 8 = d := Option.some.inj hd; exact rfl)⟩
        | 2, ho =>
          simp only [List.getElem?_toArray, List.getElem?_cons_zero, List.getElem?_cons_succ, Option.some.injEq] at ho
          subst ho
          rw [if_pos (wantR_none rfl)]
          have d8 := hdep ⟨1, .data⟩ (by simp) rfl _ rfl 8 rfl
          change ρ (.tmp 8) = _ at d8
          generalize hR : (fun (u : Value) (w' : World) => Below w9.heap.size w9 w' ∧ _) = R
          clear hout hcon hdep
          go_simp
          rw [stepOk_enter]
          refine (HU.out _).mono ?_
          rintro e w2 ⟨rfl, rfl⟩
          subst hR
          exact ⟨_, rfl, hCx, fun s u h => h, fun d hd => (by obtain rfl : 9 = d := Option.some.inj hd; exact rfl)⟩
        | 3, ho =>
          simp only [List.getElem?_toArray, List.getElem?_cons_zero, List.getElem?_cons_succ, Option.some.injEq] at ho
          subst ho
          rw [if_pos (wantR_none rfl)]
          have d9 := hdep ⟨2, .data⟩ (by simp) rfl _ rfl 9 rfl
          change ρ (.tmp 9) = _ at d9
          generalize hR : (fun (u : Value) (w' : World) => Below w9.heap.size w9 w' ∧ _) = R
          clear hout hcon hdep
          go_simp
          subst hR
          exact ⟨hCx, fun s u h => h, fun d hd => (by obtain rfl : 10 = d := Option.some.inj hd; exact rfl)⟩
        | 4, ho =>
          simp only [List.getElem?_toArray, List.getElem?_cons_zero, List.getElem?_cons_succ, Option.some.injEq] at ho
          subst ho
          rw [if_pos (wantR_none rfl)]
          have d10 := hdep ⟨3, .data⟩ (by simp) rfl _ rfl 10 rfl
          change ρ (.tmp 10) = _ at d10
          generalize hR : (fun (u : Value) (w' : World) => Below w9.heap.size w9 w' ∧ _) = R
          clear hout hcon hdep
          go_simp
          subst hR
          exact ⟨hCx, fun s u h => h, fun d hd => (by obtain rfl : 11 = d := Option.some.inj hd; exact rfl)⟩
        | 5, ho =>
          simp only [List.getElem?_toArray, List.getElem?_cons_zero, List.getElem?_cons_succ, Option.some.injEq] at ho
          subst ho
          have dG := hdep ⟨4, .guard⟩ (by simp) rfl _ rfl 11 rfl
          change ρ (.tmp 11) = _ at dG
          rw [if_pos (by rw [wantR_some rfl rfl rfl dG]; decide)]
          clear dG
          generalize hR : (fun (u : Value) (w' : World) => Below w9.heap.size w9 w' ∧ _) = R
          clear hout hcon hdep
          go_simp
          subst hR
          exact ⟨hCx, fun s u h => h, fun d hd => (by obtain rfl : 12 = d := Option.some.inj hd; exact rfl)⟩
        | 6, ho =>
          simp only [List.getElem?_toArray, List.getElem?_cons_zero, List.getElem?_cons_succ, Option.some.injEq] at ho
          subst ho
          have dG := hdep ⟨4, .guard⟩ (by simp) rfl _ rfl 11 rfl
          change ρ (.tmp 11) = _ at dG
          rw [if_pos (by rw [wantR_some rfl rfl rfl dG]; decide)]
          clear dG
          generalize hR : (fun (u : Value) (w' : World) => Below w9.heap.size w9 w' ∧ _) = R
          clear hout hcon hdep
          go_simp
          subst hR
          exact ⟨hCx, fun s u h => h, fun d hd => (by obtain rfl : 13 = d := Option.some.inj hd; exact rfl)⟩
        | 7, ho =>
          simp only [List.getElem?_toArray, List.getElem?_cons_zero, List.getElem?_cons_succ, Option.some.injEq] at ho
          subst ho
          have dG := hdep ⟨4, .guard⟩ (by simp) rfl _ rfl 11 rfl
          change ρ (.tmp 11) = _ at dG
          rw [if_pos (by rw [wantR_some rfl rfl rfl dG]; decide)]
          clear dG
          have d13 := hdep ⟨6, .data⟩ (by simp) rfl _ rfl 13 rfl
          change ρ (.tmp 13) = _ at d13
          generalize hR : (fun (u : Value) (w' : World) => Below w9.heap.size w9 w' ∧ _) = R
          clear hout hcon hdep
          go_simp
          rw [stepOk_enter]
          refine (rtrim_any c A cap wx (HR9.out.below hCx) (by have := HL.out; omega)).mono ?_
          rintro e w2 ⟨TB, tc, rfl, hi2, hb2⟩
          subst hR
          exact ⟨_, rfl, hCx.trans (hb2.mono hCx.size), goodBy_stay hb2, fun d hd => (by obtain rfl : 14 = d := Option.some.inj hd; exact ⟨TB, tc, by rw [HTR.out], by rw [HTR.out]; exact hi2⟩)⟩
        | 8, ho =>
          simp only [List.getElem?_toArray, List.getElem?_cons_zero, List.getElem?_cons_succ, Option.some.injEq] at ho
          subst ho
          have dG := hdep ⟨4, .guard⟩ (by simp) rfl _ rfl 11 rfl
          change ρ (.tmp 11) = _ at dG
          rw [if_pos (by rw [wantR_some rfl rfl rfl dG]; decide)]
          clear dG
          have d12 := hdep ⟨5, .data⟩ (by simp) rfl _ rfl 12 rfl
          change ρ (.tmp 12) = _ at d12
          have d14 := hdep ⟨7, .data⟩ (by simp) rfl _ rfl 14 rfl
          change (TrimGood c) (ρ (.tmp 14)) wx at d14
          generalize hR : (fun (u : Value) (w' : World) => Below w9.heap.size w9 w' ∧ _) = R
          clear hout hcon hdep
          go_simp
          obtain ⟨TB, tc, ht, hi⟩ := d14
          go_simp
          rw [stepOk_enter]
          refine (HSM.out wx TB tc (HR9.out.below hCx) hi).mono ?_
          rintro e w2 ⟨rfl, hb2⟩
          subst hR
          exact ⟨_, rfl, hCx.trans (hb2.mono hCx.size), goodBy_stay hb2, fun d hd => (by obtain rfl : 15 = d := Option.some.inj hd; exact rfl)⟩
        | 9, ho =>
          simp only [List.getElem?_toArray, List.getElem?_cons_zero, List.getElem?_cons_succ, Option.some.injEq] at ho
          subst ho
          have dG := hdep ⟨4, .guard⟩ (by simp) rfl _ rfl 11 rfl
          change ρ (.tmp 11) = _ at dG
          rw [if_pos (by rw [wantR_some rfl rfl rfl dG]; decide)]
          clear dG
          have d15 := hdep ⟨8, .data⟩ (by simp) rfl _ rfl 15 rfl
          change ρ (.tmp 15) = _ at d15
          generalize hR : (fun (u : Value) (w' : World) => Below w9.heap.size w9 w' ∧ _) = R
          clear hout hcon hdep
          go_simp
          subst hR
          exact ⟨hCx, fun s u h => h, fun d hd => (by obtain rfl : 16 = d := Option.some.inj hd; exact rfl)⟩
        | 10, ho =>
          simp only [List.getElem?_toArray, List.getElem?_cons_zero, List.getElem?_cons_succ, Option.some.injEq] at ho
          subst ho
          rw [if_pos (wantR_none rfl)]
          have d11 := hdep ⟨4, .data⟩ (by simp) rfl _ rfl 11 rfl
          change ρ (.tmp 11) = _ at d11
          have d16 := hdep ⟨9, .data⟩ (by simp) rfl _ rfl 16 rfl
          change ρ (.tmp 16) = _ at d16
          generalize hR : (fun (u : Value) (w' : World) => Below w9.heap.size w9 w' ∧ _) = R
          clear hout hcon hdep
          go_simp
          subst hR
          exact ⟨hCx, fun s u h => h, fun d hd => (by obtain rfl : 17 = d := Option.some.inj hd; exact rfl)⟩
        | 11, ho =>
          simp only [List.getElem?_toArray, List.getElem?_cons_zero, List.getElem?_cons_succ, Option.some.injEq] at ho
          subst ho
          rw [if_pos (wantR_none rfl)]
          have d17 := hdep ⟨10, .data⟩ (by simp) rfl _ rfl 17 rfl
          change ρ (.tmp 17) = _ at d17
          generalize hR : (fun (u : Value) (w' : World) => Below w9.heap.size w9 w' ∧ _) = R
          clear hout hcon hdep
          go_simp
          subst hR
          exact ⟨hCx, fun s u h => h, fun d hd => (by obtain rfl : 18 = d := Option.some.inj hd; exact rfl)⟩
        | 12, ho =>
          simp only [List.getElem?_toArray, List.getElem?_cons_zero, List.getElem?_cons_succ, Option.some.injEq] at ho
          subst ho
          have dG := hdep ⟨11, .guard⟩ (by simp) rfl _ rfl 18 rfl
          change ρ (.tmp 18) = _ at dG
          rw [if_pos (by rw [wantR_some rfl rfl rfl dG]; decide)]
          clear dG
          generalize hR : (fun (u : Value) (w' : World) => Below w9.heap.size w9 w' ∧ _) = R
          clear hout hcon hdep
          go_simp
          subst hR
          exact ⟨hCx, fun s u h => h, fun d hd => (by obtain rfl : 19 = d := Option.some.inj hd; exact rfl)⟩
        | 13, ho =>
          simp only [List.getElem?_toArray, List.getElem?_cons_zero, List.getElem?_cons_succ, Option.some.injEq] at ho
          subst ho
          have dG := hdep ⟨11, .guard⟩ (by simp) rfl _ rfl 18 rfl
          change ρ (.tmp 18) = _ at dG
          rw [if_pos (by rw [wantR_some rfl rfl rfl dG]; decide)]
          clear dG
          have d19 := hdep ⟨12, .data⟩ (by simp) rfl _ rfl 19 rfl
          change ρ (.tmp 19) = _ at d19
          generalize hR : (fun (u : Value) (w' : World) => Below w9.heap.size w9 w' ∧ _) = R
          clear hout hcon hdep
          go_simp
          subst hR
          exact ⟨hCx, fun s u h => h, fun d hd => (by obtain rfl : 20 = d := Option.some.inj hd; exact rfl)⟩
        | 14, ho =>
          simp only [List.getElem?_toArray, List.getElem?_cons_zero, List.getElem?_cons_succ, Option.some.injEq] at ho
          subst ho
          have dG := hdep ⟨11, .guard⟩ (by simp) rfl _ rfl 18 rfl
          change ρ (.tmp 18) = _ at dG
          rw [if_pos (by rw [wantR_some rfl rfl rfl dG]; decide)]
          clear dG
          have d20 := hdep ⟨13, .data⟩ (by simp) rfl _ rfl 20 rfl
          change ρ (.tmp 20) = _ at d20
          generalize hR : (fun (u : Value) (w' : World) => Below w9.heap.size w9 w' ∧ _) = R
          clear hout hcon hdep
          go_simp
          subst hR
          exact ⟨hCx, fun s u h => h, fun d hd => (by obtain rfl : 21 = d := Option.some.inj hd; exact rfl)⟩
        | 15, ho =>
          simp only [List.getElem?_toArray, List.getElem?_cons_zero, List.getElem?_cons_succ, Option.some.injEq] at ho
          subst ho
          rw [if_pos (wantR_none rfl)]
          have d18 := hdep ⟨11, .data⟩ (by simp) rfl _ rfl 18 rfl
          change ρ (.tmp 18) = _ at d18
          have d21 := hdep ⟨14, .data⟩ (by simp) rfl _ rfl 21 rfl
          change ρ (.tmp 21) = _ at d21
          generalize hR : (fun (u : Value) (w' : World) => Below w9.heap.size w9 w' ∧ _) = R
          clear hout hcon hdep
          go_simp
          subst hR
          exact ⟨hCx, fun s u h => h, fun d hd => (by obtain rfl : 22 = d := Option.some.inj hd; exact rfl)⟩
        | 16, ho =>
          simp only [List.getElem?_toArray, List.getElem?_cons_zero, List.getElem?_cons_succ, Option.some.injEq] at ho
          subst ho
          rw [if_pos (wantR_none rfl)]
          have d22 := hdep ⟨15, .data⟩ (by simp) rfl _ rfl 22 rfl
          change ρ (.tmp 22) = _ at d22
          generalize hR : (fun (u : Value) (w' : World) => Below w9.heap.size w9 w' ∧ _) = R
          clear hout hcon hdep
          go_simp
          subst hR
          exact ⟨hCx, fun s u h => h, fun d hd => (by obtain rfl : 23 = d := Option.some.inj hd; exact rfl)⟩
        | 17, ho =>
          simp only [List.getElem?_toArray, List.getElem?_cons_zero, List.getElem?_cons_succ, Option.some.injEq] at ho
          subst ho
          have dG := hdep ⟨16, .guard⟩ (by simp) rfl _ rfl 23 rfl
          change ρ (.tmp 23) = _ at dG
          rw [if_pos (by rw [wantR_some rfl rfl rfl dG]; decide)]
          clear dG
          generalize hR : (fun (u : Value) (w' : World) => Below w9.heap.size w9 w' ∧ _) = R
          clear hout hcon hdep
          go_simp
          subst hR
          exact ⟨hCx, fun s u h => h, fun d hd => (by obtain rfl : 24 = d := Option.some.inj hd; exact rfl)⟩
        | 18, ho =>
          simp only [List.getElem?_toArray, List.getElem?_cons_zero, List.getElem?_cons_succ, Option.some.injEq] at ho
          subst ho
          have dG := hdep ⟨16, .guard⟩ (by simp) rfl _ rfl 23 rfl
          change ρ (.tmp 23) = _ at dG
          rw [if_pos (by rw [wantR_some rfl rfl rfl dG]; decide)]
          clear dG
          have d24 := hdep ⟨17, .data⟩ (by simp) rfl _ rfl 24 rfl
          change ρ (.tmp 24) = _ at d24
          generalize hR : (fun (u : Value) (w' : World) => Below w9.heap.size w9 w' ∧ _) = R
          clear hout hcon hdep
          go_simp
          subst hR
          exact ⟨hCx, fun s u h => h, fun d hd => (by obtain rfl : 25 = d := Option.some.inj hd; exact rfl)⟩
        | 19, ho =>
          simp only [List.getElem?_toArray, List.getElem?_cons_zero, List.getElem?_cons_succ, Option.some.injEq] at ho
          subst ho
          have dG := hdep ⟨16, .guard⟩ (by simp) rfl _ rfl 23 rfl
          change ρ (.tmp 23) = _ at dG
          rw [if_pos (by rw [wantR_some rfl rfl rfl dG]; decide)]
          clear dG
          have d25 := hdep ⟨18, .data⟩ (by simp) rfl _ rfl 25 rfl
          change ρ (.tmp 25) = _ at d25
          generalize hR : (fun (u : Value) (w' : World) => Below w9.heap.size w9 w' ∧ _) = R
          clear hout hcon hdep
          go_simp
          rw [stepOk_enter]
          refine (HLL.out _).mono ?_
          rintro e w2 ⟨rfl, rfl⟩
          subst hR
          exact ⟨_, rfl, hCx, fun s u h => h, fun d hd => (by obtain rfl : 26 = d := Option.some.inj hd; exact rfl)⟩
        | 20, ho =>
          simp only [List.getElem?_toArray, List.getElem?_cons_zero, List.getElem?_cons_succ, Option.some.injEq] at ho
          subst ho
          have dG := hdep ⟨16, .guard⟩ (by simp) rfl _ rfl 23 rfl
          change ρ (.tmp 23) = _ at dG
          rw [if_pos (by rw [wantR_some rfl rfl rfl dG]; decide)]
          clear dG
          have d26 := hdep ⟨19, .data⟩ (by simp) rfl _ rfl 26 rfl
          change ρ (.tmp 26) = _ at d26
          generalize hR : (fun (u : Value) (w' : World) => Below w9.heap.size w9 w' ∧ _) = R
          clear hout hcon hdep
          go_simp
          subst hR
          exact ⟨hCx, fun s u h => h, fun d hd => (by obtain rfl : 27 = d := Option.some.inj hd; exact rfl)⟩
        | 21, ho =>
          simp only [List.getElem?_toArray, List.getElem?_cons_zero, List.getElem?_cons_succ, Option.some.injEq] at ho
          subst ho
          have dG := hdep ⟨20, .guard⟩ (by simp) rfl _ rfl 27 rfl
          change ρ (.tmp 27) = _ at dG
          rw [if_pos (by rw [wantR_some rfl rfl rfl dG]; decide)]
          clear dG
          generalize hR : (fun (u : Value) (w' : World) => Below w9.heap.size w9 w' ∧ _) = R
          clear hout hcon hdep
          go_simp
          subst hR
          exact ⟨hCx, fun s u h => h, fun d hd => (by obtain rfl : 28 = d := Option.some.inj hd; exact rfl)⟩
        | 22, ho =>
          simp only [List.getElem?_toArray, List.getElem?_cons_zero, List.getElem?_cons_succ, Option.some.injEq] at ho
          subst ho
          have dG := hdep ⟨20, .guard⟩ (by simp) rfl _ rfl 27 rfl
          change ρ (.tmp 27) = _ at dG
          rw [if_pos (by rw [wantR_some rfl rfl rfl dG]; decide)]
          clear dG
          have d28 := hdep ⟨21, .data⟩ (by simp) rfl _ rfl 28 rfl
          change ρ (.tmp 28) = _ at d28
          generalize hR : (fun (u : Value) (w' : World) => Below w9.heap.size w9 w' ∧ _) = R
          clear hout hcon hdep
          go_simp
          rw [stepOk_enter]
          refine (HLI.out wx).mono ?_
          rintro e w2 ⟨rfl, hb2⟩
          subst hR
          exact ⟨_, rfl, hCx.trans (hb2.mono hCx.size), goodBy_stay hb2, fun d hd => (by obtain rfl : 29 = d := Option.some.inj hd; exact rfl)⟩
        | 23, ho =>
          simp only [List.getElem?_toArray, List.getElem?_cons_zero, List.getElem?_cons_succ, Option.some.injEq] at ho
          subst ho
          have dG := hdep ⟨20, .guard⟩ (by simp) rfl _ rfl 27 rfl
          change ρ (.tmp 27) = _ at dG
          rw [if_pos (by rw [wantR_some rfl rfl rfl dG]; decide)]
          clear dG
          have d29 := hdep ⟨22, .data⟩ (by simp) rfl _ rfl 29 rfl
          change ρ (.tmp 29) = _ at d29
          generalize hR : (fun (u : Value) (w' : World) => Below w9.heap.size w9 w' ∧ _) = R
          clear hout hcon hdep
          go_simp
          subst hR
          exact ⟨hCx, fun s u h => h, fun d hd => (by obtain rfl : 30 = d := Option.some.inj hd; exact rfl)⟩
        | 24, ho =>
          simp only [List.getElem?_toArray, List.getElem?_cons_zero, List.getElem?_cons_succ, Option.some.injEq] at ho
          subst ho
          have dG := hdep ⟨16, .guard⟩ (by simp) rfl _ rfl 23 rfl
          change ρ (.tmp 23) = _ at dG
          rw [if_pos (by rw [wantR_some rfl rfl rfl dG]; decide)]
          clear dG
          have d27 := hdep ⟨20, .data⟩ (by simp) rfl _ rfl 27 rfl
          change ρ (.tmp 27) = _ at d27
          have d30 := hdep ⟨23, .data⟩ (by simp) rfl _ rfl 30 rfl
          change ρ (.tmp 30) = _ at d30
          generalize hR : (fun (u : Value) (w' : World) => Below w9.heap.size w9 w' ∧ _) = R
          clear hout hcon hdep
          go_simp
          subst hR
          exact ⟨hCx, fun s u h => h, fun d hd => (by obtain rfl : 31 = d := Option.some.inj hd; exact rfl)⟩
        | 25, ho =>
          simp only [List.getElem?_toArray, List.getElem?_cons_zero, List.getElem?_cons_succ, Option.some.injEq] at ho
          subst ho
          rw [if_pos (wantR_none rfl)]
          have d23 := hdep ⟨16, .data⟩ (by simp) rfl _ rfl 23 rfl
          change ρ (.tmp 23) = _ at d23
          have d31 := hdep ⟨24, .data⟩ (by simp) rfl _ rfl 31 rfl
          change ρ (.tmp 31) = _ at d31
          generalize hR : (fun (u : Value) (w' : World) => Below w9.heap.size w9 w' ∧ _) = R
          clear hout hcon hdep
          go_simp
          subst hR
          exact ⟨hCx, fun s u h => h, fun d hd => (by obtain rfl : 32 = d := Option.some.inj hd; exact rfl)⟩
        | n + 26, ho => exact absurd ho (by simp)
      · intro uz wA hCA hg
        have qA : uz 32 = .bool false := hg 25 _ rfl 32 rfl
        generalize hds : dstsOf _ = ds
        obtain rfl : ds = [7, 8, 9, 10, 11, 12, 13, 14, 15, 16, 17, 18, 19, 20, 21, 22, 23, 24, 25, 26, 27, 28, 29, 30, 31, 32] := hds.symm.trans rfl
        simp only [List.foldl_cons, List.foldl_nil, List.setIfInBounds_toArray, List.set_cons_zero, List.set_cons_succ]
        rw [qA]
        clear hg qA
        have HL := Lib.hid (reqs_few HC.out.op HYES.out)
        have HXA := Lib.hid (HX9.out.below hCA)
        have HRA := Lib.hid (HR9.out.below hCA)
        have HBA := Lib.hid (HB9.out.trans (hCA.mono HB9.out.size))
        clear hCA HX9 HR9 HB9 HSM HLI hd2 HLL dt
        have x0 := HXA.out.at.g0
        have HWO := Lib.hid (word16_any c.kind hk1 hk22 wA)
        obtain ⟨WB, hWB⟩ : ∃ WB : ByteArray, (⟨(wordK c.kind).toArray⟩ : ByteArray) = WB := ⟨_, rfl⟩
        rw [hWB] at HWO
        have hWBs : WB.size ≤ 20 := by
          rw [← hWB]
          show (wordK c.kind).length ≤ 20
          unfold wordK
          split
          · exact words_len _
          · simp
        have HWB := Lib.hid hWB
        clear hWB
        go_upto_region 3 with fail
        go_wp2_with fail
        refine HWO.out.mono ?_
        rintro e wB ⟨rfl, hbB⟩
        have HXB := Lib.hid (HXA.out.below hbB)
        have HRB := Lib.hid (HRA.out.below hbB)
        have HBB := Lib.hid (HBA.out.trans (hbB.mono HBA.out.size))
        clear hbB x0 HWO HXA HRA HBA
        have x0 := HXB.out.at.g0
        go_upto_region 4 with fail
        go_wp2_with fail
        refine (HU.out _).mono ?_
        rintro e wB ⟨rfl, rfl⟩
        have hz : u.size ≤ 5 := by
          have := usesS_len c.kind
          rw [← HUL.out] at this
          exact this
        have HLEN := Lib.hid (show u.data.toList.length = u.size by simp)
        have HAT := Lib.hid (fun (j : Nat) (h1 : j < u.data.toList.length) (h2 : j < u.size) => (show u.data.toList[j] = u[j] from rfl))
        have HLET := Lib.hid (letters c.kind)
        rw [← HUL.out] at HLET
        clear x0 HU
        go_wp2_with fail
        go_loopg [4, 6] (u.size + 1) (fun g2 s i wx => ∃ (k : Nat) (S : ByteArray), i = .int .i64 k ∧ s = .string S ∧ k ≤ u.size ∧ u.size - k < g2 ∧ S.size ≤ 30 + 1510 * k ∧ Hid (S = ⟨(wordK c.kind ++ [40] ++ Lib.join ((u.data.toList.take k).map (letT c)) [44, 32]).toArray⟩) ∧ Hid (Below wB.heap.size wB wx))
        case atStart => exact ⟨0, WB ++ ⟨#[40]⟩, rfl, rfl, by omega, by omega, by rw [ByteArray.size_append, show (⟨#[40]⟩ : ByteArray).size = 1 from rfl]; omega, Lib.hid (by rw [← HWB.out, show (⟨#[40]⟩ : ByteArray) = ⟨([40] : List UInt8).toArray⟩ from rfl, ba_app16]; simp [Lib.join_nil]), Lib.hid (Below.refl _ _)⟩
        case round =>
          obtain ⟨k, S, rfl, rfl, hk, hg2, hS, HS, HBX⟩ := hrel
          obtain ⟨g, rfl⟩ : ∃ g, gk = g + 1 := ⟨gk - 1, by omega⟩
          have HBBX := Lib.hid (HBB.out.trans (HBX.out.mono HBB.out.size))
          by_cases hlt : k < u.size
          · have hdl : decide (k < u.size) = true := by simpa using hlt
            have hll : k < u.data.toList.length := by rw [HLEN.out]; exact hlt
            have hmem := HLET.out u.data.toList[k] (List.getElem_mem hll)
            have htk : (u.data.toList.take (k + 1)).map (letT c) = (u.data.toList.take k).map (letT c) ++ [letT c u.data.toList[k]] := by rw [List.take_succ_eq_append_getElem hll, List.map_append]; rfl
            rw [HAT.out k hll hlt] at hmem htk
            have HTK := Lib.hid htk
            have hls := letB_size HC.out HL.out u[k]
            have HLB2 := Lib.hid (show letB c u[k] = ⟨(letT c u[k]).toArray⟩ from rfl)
            have HXW := Lib.hid (HXB.out.below HBX.out)
            have HRW := Lib.hid (HRB.out.below HBX.out)
            have x1 := HXW.out.at.g1
            have x2 := HXW.out.at.g2
            have x3 := HXW.out.at.g3
            have x4 := HXW.out.at.g4
            have x5 := HXW.out.at.g5
            have x6 := HXW.out.at.g6
            have x7 := HXW.out.at.g7
            have x8 := HXW.out.at.g8
            have x9 := HXW.out.at.g9
            have xA := HXW.out.at.gA
            have HVAL := Lib.hid (show ∀ b : UInt8, u[k] = b → ((u[k].toNat : Nat) : Int) = (b.toNat : Int) from fun b h => by rw [h])
            have HLV := Lib.hid (show ∀ b : UInt8, u[k] = b → letB c u[k] = letB c b from fun b h => by rw [h])
            clear htk
            generalize letB c u[k] = T at *
            have HAPP := Lib.hid (show ∀ S2 : ByteArray, (if k = 0 then S2 = S else S2 = S ++ ⟨#[44, 32]⟩) → S2 ++ T = ⟨(wordK c.kind ++ [40] ++ Lib.join ((u.data.toList.take (k + 1)).map (letT c)) [44, 32]).toArray⟩ from fun S2 h2 => by
              rw [HTK.out, HLB2.out]
              by_cases hk0 : k = 0
              · rw [if_pos hk0] at h2
                subst hk0
                rw [h2, HS.out, ba_app16]
                simp [Lib.join_one, Lib.join_nil]
              · rw [if_neg hk0] at h2
                rw [h2, HS.out, join_snoc _ _ _ (fun h => by have := congrArg List.length h; rw [List.length_map, List.length_take, List.length_nil, HLEN.out] at this; omega), show (⟨#[44, 32]⟩ : ByteArray) = ⟨([44, 32] : List UInt8).toArray⟩ from rfl, ba_app16, ba_app16]
                simp)
            by_cases hk0 : k = 0
            · subst hk0
              have hd0 : decide ((0 : Int) < ((0 : Nat) : Int)) = false := by decide
              have HAP := Lib.hid (HAPP.out S rfl)
              go_upto_region 10 with fail
              rcases hmem with hc | hc | hc | hc | hc | hc | hc | hc | hc
              · have hv := HVAL.out 99 hc
                have HTB := Lib.hid (HLV.out 99 hc)
                simp only [show ((99 : UInt8).toNat : Int) = 99 from rfl] at hv
                clear hc
                have HNU := Lib.hid (num16_any c.comm HC.out.comm wr)
                rw [show itoaB c.comm = letB c 99 from rfl, ← HTB.out] at HNU
                go_wp2_with fail
                refine HNU.out.mono ?_
                rintro e w2 ⟨rfl, hb2⟩
                clear HNU
                have HB2 := Lib.hid (HBX.out.trans (hb2.mono HBX.out.size))
                clear hb2 x1 x2 x3 x4 x5 x6 x7 x8 x9 xA hv
                go_wp2_with fail
                go_roundg g
                case measure => omega
                case rel => exact ⟨0 + 1, S ++ T, by go_num, rfl, by omega, by omega, by rw [ByteArray.size_append]; omega, HAP, HB2⟩
              · have hv := HVAL.out 112 hc
                have HTB := Lib.hid (HLV.out 112 hc)
                simp only [show ((112 : UInt8).toNat : Int) = 112 from rfl] at hv
                clear hc
                have HNU := Lib.hid (num16_any c.peer HC.out.peer wr)
                rw [show itoaB c.peer = letB c 112 from rfl, ← HTB.out] at HNU
                go_wp2_with fail
                refine HNU.out.mono ?_
                rintro e w2 ⟨rfl, hb2⟩
                clear HNU
                have HB2 := Lib.hid (HBX.out.trans (hb2.mono HBX.out.size))
                clear hb2 x1 x2 x3 x4 x5 x6 x7 x8 x9 xA hv
                go_wp2_with fail
                go_roundg g
                case measure => omega
                case rel => exact ⟨0 + 1, S ++ T, by go_num, rfl, by omega, by omega, by rw [ByteArray.size_append]; omega, HAP, HB2⟩
              · have hv := HVAL.out 116 hc
                have HTB := Lib.hid (HLV.out 116 hc)
                simp only [show ((116 : UInt8).toNat : Int) = 116 from rfl] at hv
                clear hc
                have HNU := Lib.hid (num16_any c.tag HC.out.tag wr)
                rw [show itoaB c.tag = letB c 116 from rfl, ← HTB.out] at HNU
                go_wp2_with fail
                refine HNU.out.mono ?_
                rintro e w2 ⟨rfl, hb2⟩
                clear HNU
                have HB2 := Lib.hid (HBX.out.trans (hb2.mono HBX.out.size))
                clear hb2 x1 x2 x3 x4 x5 x6 x7 x8 x9 xA hv
                go_wp2_with fail
                go_roundg g
                case measure => omega
                case rel => exact ⟨0 + 1, S ++ T, by go_num, rfl, by omega, by omega, by rw [ByteArray.size_append]; omega, HAP, HB2⟩
              · have hv := HVAL.out 118 hc
                have HTB := Lib.hid (HLV.out 118 hc)
                simp only [show ((118 : UInt8).toNat : Int) = 118 from rfl] at hv
                clear hc
                have HNU := Lib.hid (number_any c.value HC.out.value.1 HC.out.value.2 wr)
                rw [show (⟨(Lib.itoa c.value).toArray⟩ : ByteArray) = letB c 118 from rfl, ← HTB.out] at HNU
                go_wp2_with fail
                refine HNU.out.mono ?_
                rintro e w2 ⟨rfl, hb2⟩
                clear HNU
                have HB2 := Lib.hid (HBX.out.trans (hb2.mono HBX.out.size))
                clear hb2 x1 x2 x3 x4 x5 x6 x7 x8 x9 xA hv
                go_wp2_with fail
                go_roundg g
                case measure => omega
                case rel => exact ⟨0 + 1, S ++ T, by go_num, rfl, by omega, by omega, by rw [ByteArray.size_append]; omega, HAP, HB2⟩
              · have hv := HVAL.out 115 hc
                have HTB := Lib.hid (HLV.out 115 hc)
                simp only [show ((115 : UInt8).toNat : Int) = 115 from rfl] at hv
                clear hc
                have HNU := Lib.hid (num16_any c.size HC.out.size wr)
                rw [show itoaB c.size = letB c 115 from rfl, ← HTB.out] at HNU
                go_wp2_with fail
                refine HNU.out.mono ?_
                rintro e w2 ⟨rfl, hb2⟩
                clear HNU
                have HB2 := Lib.hid (HBX.out.trans (hb2.mono HBX.out.size))
                clear hb2 x1 x2 x3 x4 x5 x6 x7 x8 x9 xA hv
                go_wp2_with fail
                go_roundg g
                case measure => omega
                case rel => exact ⟨0 + 1, S ++ T, by go_num, rfl, by omega, by omega, by rw [ByteArray.size_append]; omega, HAP, HB2⟩
              · have hv := HVAL.out 114 hc
                have HTB := Lib.hid (HLV.out 114 hc)
                simp only [show ((114 : UInt8).toNat : Int) = 114 from rfl] at hv
                clear hc
                have HNU := Lib.hid (num16_any c.root HC.out.root wr)
                rw [show itoaB c.root = letB c 114 from rfl, ← HTB.out] at HNU
                go_wp2_with fail
                refine HNU.out.mono ?_
                rintro e w2 ⟨rfl, hb2⟩
                clear HNU
                have HB2 := Lib.hid (HBX.out.trans (hb2.mono HBX.out.size))
                clear hb2 x1 x2 x3 x4 x5 x6 x7 x8 x9 xA hv
                go_wp2_with fail
                go_roundg g
                case measure => omega
                case rel => exact ⟨0 + 1, S ++ T, by go_num, rfl, by omega, by omega, by rw [ByteArray.size_append]; omega, HAP, HB2⟩
              · have hv := HVAL.out 111 hc
                have HTB := Lib.hid (HLV.out 111 hc)
                simp only [show ((111 : UInt8).toNat : Int) = 111 from rfl] at hv
                clear hc
                have HNU := Lib.hid (red16_any c.op HC.out.op.1 HO.out wr)
                rw [show (⟨(redK c.op).toArray⟩ : ByteArray) = letB c 111 from rfl, ← HTB.out] at HNU
                go_wp2_with fail
                refine HNU.out.mono ?_
                rintro e wr ⟨rfl, rfl⟩
                have hb2 := Below.refl wr.heap.size wr
                clear HNU
                have HB2 := Lib.hid (HBX.out.trans (hb2.mono HBX.out.size))
                clear hb2 x1 x2 x3 x4 x5 x6 x7 x8 x9 xA hv
                go_wp2_with fail
                go_roundg g
                case measure => omega
                case rel => exact ⟨0 + 1, S ++ T, by go_num, rfl, by omega, by omega, by rw [ByteArray.size_append]; omega, HAP, HB2⟩
              · have hv := HVAL.out 107 hc
                have HTB := Lib.hid (HLV.out 107 hc)
                simp only [show ((107 : UInt8).toNat : Int) = 107 from rfl] at hv
                clear hc
                have HN1 := Lib.hid (fun (wx : World) => num16_any c.color HC.out.color wx)
                have HN2 := Lib.hid (fun (wx : World) => num16_any c.key HC.out.key wx)
                have hc1 := itoaB_small HC.out.color
                have hc2 := itoaB_small HC.out.key
                have HTT := Lib.hid (show itoaB c.color ++ ⟨#[44, 32]⟩ ++ itoaB c.key = T by
                  rw [HTB.out, show (⟨#[44, 32]⟩ : ByteArray) = ⟨([44, 32] : List UInt8).toArray⟩ from rfl]
                  unfold itoaB
                  rw [ba_app16, ba_app16]
                  rfl)
                generalize itoaB c.color = C1 at *
                generalize itoaB c.key = C2 at *
                have k9 := fun d os => cell_regrown x9 d os
                have kA := fun d os => cell_regrown xA d os
                have hs1 : ¬ 9223372036854775807 < S.size + C1.size := by omega
                have hs2 : ¬ 9223372036854775807 < S.size + C1.size + 2 := by omega
                have hs3 : ¬ 9223372036854775807 < S.size + C1.size + 2 + C2.size := by omega
                go_upto_region 26 with fail
                refine wp_region_quiet_below (by kernel_rfl) (by kernel_rfl) ?_
                repeat (quiet_step (first | (with_reducible exact Calls.regrown_of (HN1.out _)) | (with_reducible exact Calls.regrown_of (HN2.out _))))
                refine wpQuiet_nil ?_
                intro _ hw'
                obtain ⟨⟨dq, osq⟩, hw''⟩ := hw'
                subst hw''
                have hb2 := below_regrown wr dq osq
                clear k9 kA hs1 hs2 hs3 HN1 HN2
                generalize grow (redrawn wr dq) osq = w2 at *
                have HAQ := Lib.hid (show S ++ C1 ++ ⟨#[44, 32]⟩ ++ C2 = S ++ T by rw [← HTT.out, ByteArray.append_assoc, ByteArray.append_assoc, ByteArray.append_assoc])
                rw [HAQ.out]
                have HB2 := Lib.hid (HBX.out.trans (hb2.mono HBX.out.size))
                clear hb2 x1 x2 x3 x4 x5 x6 x7 x8 x9 xA hv
                go_wp2_with fail
                go_roundg g
                case measure => omega
                case rel => exact ⟨0 + 1, S ++ T, by go_num, rfl, by omega, by omega, by rw [ByteArray.size_append]; omega, HAP, HB2⟩
              · have hv := HVAL.out 108 hc
                have HTB := Lib.hid (HLV.out 108 hc)
                simp only [show ((108 : UInt8).toNat : Int) = 108 from rfl] at hv
                clear hc
                have HNU := Lib.hid (list16_any A cap c.reqs wr HRW.out (by have := HL.out; omega) HC.out.reqs)
                rw [show (⟨(Lib.join (c.reqs.map Lib.itoa) [44, 32]).toArray⟩ : ByteArray) = letB c 108 from rfl, ← HTB.out] at HNU
                go_wp2_with fail
                refine HNU.out.mono ?_
                rintro e w2 ⟨rfl, hb2⟩
                clear HNU
                have HB2 := Lib.hid (HBX.out.trans (hb2.mono HBX.out.size))
                clear hb2 x1 x2 x3 x4 x5 x6 x7 x8 x9 xA hv
                go_wp2_with fail
                go_roundg g
                case measure => omega
                case rel => exact ⟨0 + 1, S ++ T, by go_num, rfl, by omega, by omega, by rw [ByteArray.size_append]; omega, HAP, HB2⟩
            · have hd0 : decide ((0 : Int) < (k : Int)) = true := by simp; omega
              have HAP := Lib.hid (HAPP.out (S ++ ⟨#[44, 32]⟩) (by rw [if_neg hk0]))
              go_upto_region 10 with fail
              have hS2 : (S ++ (⟨#[44, 32]⟩ : ByteArray)).size ≤ 32 + 1510 * k := by rw [ByteArray.size_append, show (⟨#[44, 32]⟩ : ByteArray).size = 2 from rfl]; omega
              generalize S ++ (⟨#[44, 32]⟩ : ByteArray) = S2 at *
              rcases hmem with hc | hc | hc | hc | hc | hc | hc | hc | hc
              · have hv := HVAL.out 99 hc
                have HTB := Lib.hid (HLV.out 99 hc)
                simp only [show ((99 : UInt8).toNat : Int) = 99 from rfl] at hv
                clear hc
                have HNU := Lib.hid (num16_any c.comm HC.out.comm wr)
                rw [show itoaB c.comm = letB c 99 from rfl, ← HTB.out] at HNU
                go_wp2_with fail
                refine HNU.out.mono ?_
                rintro e w2 ⟨rfl, hb2⟩
                clear HNU
                have HB2 := Lib.hid (HBX.out.trans (hb2.mono HBX.out.size))
                clear hb2 x1 x2 x3 x4 x5 x6 x7 x8 x9 xA hv
                go_wp2_with fail
                go_roundg g
                case measure => omega
                case rel => exact ⟨k + 1, S2 ++ T, by go_num, rfl, by omega, by omega, by rw [ByteArray.size_append]; omega, HAP, HB2⟩
              · have hv := HVAL.out 112 hc
                have HTB := Lib.hid (HLV.out 112 hc)
                simp only [show ((112 : UInt8).toNat : Int) = 112 from rfl] at hv
                clear hc
                have HNU := Lib.hid (num16_any c.peer HC.out.peer wr)
                rw [show itoaB c.peer = letB c 112 from rfl, ← HTB.out] at HNU
                go_wp2_with fail
                refine HNU.out.mono ?_
                rintro e w2 ⟨rfl, hb2⟩
                clear HNU
                have HB2 := Lib.hid (HBX.out.trans (hb2.mono HBX.out.size))
                clear hb2 x1 x2 x3 x4 x5 x6 x7 x8 x9 xA hv
                go_wp2_with fail
                go_roundg g
                case measure => omega
                case rel => exact ⟨k + 1, S2 ++ T, by go_num, rfl, by omega, by omega, by rw [ByteArray.size_append]; omega, HAP, HB2⟩
              · have hv := HVAL.out 116 hc
                have HTB := Lib.hid (HLV.out 116 hc)
                simp only [show ((116 : UInt8).toNat : Int) = 116 from rfl] at hv
                clear hc
                have HNU := Lib.hid (num16_any c.tag HC.out.tag wr)
                rw [show itoaB c.tag = letB c 116 from rfl, ← HTB.out] at HNU
                go_wp2_with fail
                refine HNU.out.mono ?_
                rintro e w2 ⟨rfl, hb2⟩
                clear HNU
                have HB2 := Lib.hid (HBX.out.trans (hb2.mono HBX.out.size))
                clear hb2 x1 x2 x3 x4 x5 x6 x7 x8 x9 xA hv
                go_wp2_with fail
                go_roundg g
                case measure => omega
                case rel => exact ⟨k + 1, S2 ++ T, by go_num, rfl, by omega, by omega, by rw [ByteArray.size_append]; omega, HAP, HB2⟩
              · have hv := HVAL.out 118 hc
                have HTB := Lib.hid (HLV.out 118 hc)
                simp only [show ((118 : UInt8).toNat : Int) = 118 from rfl] at hv
                clear hc
                have HNU := Lib.hid (number_any c.value HC.out.value.1 HC.out.value.2 wr)
                rw [show (⟨(Lib.itoa c.value).toArray⟩ : ByteArray) = letB c 118 from rfl, ← HTB.out] at HNU
                go_wp2_with fail
                refine HNU.out.mono ?_
                rintro e w2 ⟨rfl, hb2⟩
                clear HNU
                have HB2 := Lib.hid (HBX.out.trans (hb2.mono HBX.out.size))
                clear hb2 x1 x2 x3 x4 x5 x6 x7 x8 x9 xA hv
                go_wp2_with fail
                go_roundg g
                case measure => omega
                case rel => exact ⟨k + 1, S2 ++ T, by go_num, rfl, by omega, by omega, by rw [ByteArray.size_append]; omega, HAP, HB2⟩
              · have hv := HVAL.out 115 hc
                have HTB := Lib.hid (HLV.out 115 hc)
                simp only [show ((115 : UInt8).toNat : Int) = 115 from rfl] at hv
                clear hc
                have HNU := Lib.hid (num16_any c.size HC.out.size wr)
                rw [show itoaB c.size = letB c 115 from rfl, ← HTB.out] at HNU
                go_wp2_with fail
                refine HNU.out.mono ?_
                rintro e w2 ⟨rfl, hb2⟩
                clear HNU
                have HB2 := Lib.hid (HBX.out.trans (hb2.mono HBX.out.size))
                clear hb2 x1 x2 x3 x4 x5 x6 x7 x8 x9 xA hv
                go_wp2_with fail
                go_roundg g
                case measure => omega
                case rel => exact ⟨k + 1, S2 ++ T, by go_num, rfl, by omega, by omega, by rw [ByteArray.size_append]; omega, HAP, HB2⟩
              · have hv := HVAL.out 114 hc
                have HTB := Lib.hid (HLV.out 114 hc)
                simp only [show ((114 : UInt8).toNat : Int) = 114 from rfl] at hv
                clear hc
                have HNU := Lib.hid (num16_any c.root HC.out.root wr)
                rw [show itoaB c.root = letB c 114 from rfl, ← HTB.out] at HNU
                go_wp2_with fail
                refine HNU.out.mono ?_
                rintro e w2 ⟨rfl, hb2⟩
                clear HNU
                have HB2 := Lib.hid (HBX.out.trans (hb2.mono HBX.out.size))
                clear hb2 x1 x2 x3 x4 x5 x6 x7 x8 x9 xA hv
                go_wp2_with fail
                go_roundg g
                case measure => omega
                case rel => exact ⟨k + 1, S2 ++ T, by go_num, rfl, by omega, by omega, by rw [ByteArray.size_append]; omega, HAP, HB2⟩
              · have hv := HVAL.out 111 hc
                have HTB := Lib.hid (HLV.out 111 hc)
                simp only [show ((111 : UInt8).toNat : Int) = 111 from rfl] at hv
                clear hc
                have HNU := Lib.hid (red16_any c.op HC.out.op.1 HO.out wr)
                rw [show (⟨(redK c.op).toArray⟩ : ByteArray) = letB c 111 from rfl, ← HTB.out] at HNU
                go_wp2_with fail
                refine HNU.out.mono ?_
                rintro e wr ⟨rfl, rfl⟩
                have hb2 := Below.refl wr.heap.size wr
                clear HNU
                have HB2 := Lib.hid (HBX.out.trans (hb2.mono HBX.out.size))
                clear hb2 x1 x2 x3 x4 x5 x6 x7 x8 x9 xA hv
                go_wp2_with fail
                go_roundg g
                case measure => omega
                case rel => exact ⟨k + 1, S2 ++ T, by go_num, rfl, by omega, by omega, by rw [ByteArray.size_append]; omega, HAP, HB2⟩
              · have hv := HVAL.out 107 hc
                have HTB := Lib.hid (HLV.out 107 hc)
                simp only [show ((107 : UInt8).toNat : Int) = 107 from rfl] at hv
                clear hc
                have HN1 := Lib.hid (fun (wx : World) => num16_any c.color HC.out.color wx)
                have HN2 := Lib.hid (fun (wx : World) => num16_any c.key HC.out.key wx)
                have hc1 := itoaB_small HC.out.color
                have hc2 := itoaB_small HC.out.key
                have HTT := Lib.hid (show itoaB c.color ++ ⟨#[44, 32]⟩ ++ itoaB c.key = T by
                  rw [HTB.out, show (⟨#[44, 32]⟩ : ByteArray) = ⟨([44, 32] : List UInt8).toArray⟩ from rfl]
                  unfold itoaB
                  rw [ba_app16, ba_app16]
                  rfl)
                generalize itoaB c.color = C1 at *
                generalize itoaB c.key = C2 at *
                have k9 := fun d os => cell_regrown x9 d os
                have kA := fun d os => cell_regrown xA d os
                have hs1 : ¬ 9223372036854775807 < S2.size + C1.size := by omega
                have hs2 : ¬ 9223372036854775807 < S2.size + C1.size + 2 := by omega
                have hs3 : ¬ 9223372036854775807 < S2.size + C1.size + 2 + C2.size := by omega
                go_upto_region 26 with fail
                refine wp_region_quiet_below (by kernel_rfl) (by kernel_rfl) ?_
                repeat (quiet_step (first | (with_reducible exact Calls.regrown_of (HN1.out _)) | (with_reducible exact Calls.regrown_of (HN2.out _))))
                refine wpQuiet_nil ?_
                intro _ hw'
                obtain ⟨⟨dq, osq⟩, hw''⟩ := hw'
                subst hw''
                have hb2 := below_regrown wr dq osq
                clear k9 kA hs1 hs2 hs3 HN1 HN2
                generalize grow (redrawn wr dq) osq = w2 at *
                have HAQ := Lib.hid (show S2 ++ C1 ++ ⟨#[44, 32]⟩ ++ C2 = S2 ++ T by rw [← HTT.out, ByteArray.append_assoc, ByteArray.append_assoc, ByteArray.append_assoc])
                rw [HAQ.out]
                have HB2 := Lib.hid (HBX.out.trans (hb2.mono HBX.out.size))
                clear hb2 x1 x2 x3 x4 x5 x6 x7 x8 x9 xA hv
                go_wp2_with fail
                go_roundg g
                case measure => omega
                case rel => exact ⟨k + 1, S2 ++ T, by go_num, rfl, by omega, by omega, by rw [ByteArray.size_append]; omega, HAP, HB2⟩
              · have hv := HVAL.out 108 hc
                have HTB := Lib.hid (HLV.out 108 hc)
                simp only [show ((108 : UInt8).toNat : Int) = 108 from rfl] at hv
                clear hc
                have HNU := Lib.hid (list16_any A cap c.reqs wr HRW.out (by have := HL.out; omega) HC.out.reqs)
                rw [show (⟨(Lib.join (c.reqs.map Lib.itoa) [44, 32]).toArray⟩ : ByteArray) = letB c 108 from rfl, ← HTB.out] at HNU
                go_wp2_with fail
                refine HNU.out.mono ?_
                rintro e w2 ⟨rfl, hb2⟩
                clear HNU
                have HB2 := Lib.hid (HBX.out.trans (hb2.mono HBX.out.size))
                clear hb2 x1 x2 x3 x4 x5 x6 x7 x8 x9 xA hv
                go_wp2_with fail
                go_roundg g
                case measure => omega
                case rel => exact ⟨k + 1, S2 ++ T, by go_num, rfl, by omega, by omega, by rw [ByteArray.size_append]; omega, HAP, HB2⟩
          · obtain rfl : k = u.size := by omega
            have hdl : decide (u.size < u.size) = false := by simp
            have HTX := Lib.hid (show (⟨(textOfC c).toArray⟩ : ByteArray) = S ++ ⟨#[41]⟩ by
              unfold textOfC
              rw [HYES.out, if_pos rfl, ← rText_eq c HK.out, HS.out, ← HUL.out, show (⟨#[41]⟩ : ByteArray) = ⟨([41] : List UInt8).toArray⟩ from rfl, ba_app16, ← HLEN.out, List.take_length]
              rfl)
            have HERR := Lib.hid (show errOfC c = 0 by unfold errOfC; rw [HYES.out]; rfl)
            go_wp2_with fail
            go_ret2
            refine ⟨?_, HBBX.out⟩
            rw [HTX.out, HERR.out]
            rfl
  case false =>
    have HYES := Lib.hid (textB_yes HK.out HM.out HO.out (.inl (fun h => by rw [(uses_both c.kind).2.2 h] at HH8; cases HH8.out)))
    refine wp_region_relg (fun w' => Below w9.heap.size w9 w') (goodBy [(7, .is (.pointer (some ⟨w.heap.size, 0, none⟩))), (8, .is (.int .u8 c.kind)), (9, .is (.string u)), (10, .is (.bool false)), (11, .is (.bool false)), (12, .is (.agg (clCells c A cap))), (13, .is (.agg (clCells c A cap))), (14, .such (TrimGood c) (TrimGood.stay c)), (15, .is (.bool true)), (16, .is (.bool false)), (17, .is (.bool false)), (18, .is (.bool false)), (19, .is (.pointer (some ⟨w.heap.size, 7, none⟩))), (20, .is (.int .u8 c.op)), (21, .is (.bool false)), (22, .is (.bool false)), (23, .is (.bool false)), (24, .is (.pointer (some ⟨w.heap.size, 0, none⟩))), (25, .is (.int .u8 c.kind)), (26, .is (.bool false)), (27, .is (.bool false)), (28, .is undef), (29, .is undef), (30, .is undef), (31, .is (.bool false)), (32, .is (.bool false))]) (by first | assumption | kernel_rfl) (by first | rfl | kernel_rfl) (Below.refl _ _).drew ?_ ?_
    · intro i o ho ρ wx hCx hout hcon hdep
      have x1 : ρ (.tmp 1) = .pointer (some ⟨w.heap.size, 0, none⟩) := hout 1 (by decide)
      have y0 := cell_later hCx HX9.out.at.g0
      have y1 := cell_later hCx HX9.out.at.g1
      have y2 := cell_later hCx HX9.out.at.g2
      have y3 := cell_later hCx HX9.out.at.g3
      have y4 := cell_later hCx HX9.out.at.g4
      have y5 := cell_later hCx HX9.out.at.g5
      have y6 := cell_later hCx HX9.out.at.g6
      have y7 := cell_later hCx HX9.out.at.g7
      have y8 := cell_later hCx HX9.out.at.g8
      have y9 := cell_later hCx HX9.out.at.g9
      have yA := cell_later hCx HX9.out.at.gA
      have xc : ∀ c : Value, ρ (.const c) = c := fun c => hcon (.const c) (fun t h => by cases h)
      skip
      have xf : ∀ f : FuncId, ρ (.func f) = .func (.func f) #[] #[] := fun f => hcon (.func f) (fun t h => by cases h)
      match i, ho with
      | 0, ho =>
        simp only [List.getElem?_toArray, List.getElem?_cons_zero, List.getElem?_cons_succ, Option.some.injEq] at ho
        subst ho
        rw [if_pos (wantR_none rfl)]
        generalize hR : (fun (u : Value) (w' : World) => Below w9.heap.size w9 w' ∧ _) = R
        clear hout hcon hdep
        go_simp
        subst hR
        exact ⟨hCx, fun s u h => h, fun d hd => (by obtain rfl : 7 = d := Option.some.inj hd; exact rfl)⟩
      | 1, ho =>
        simp only [List.getElem?_toArray, List.getElem?_cons_zero, List.getElem?_cons_succ, Option.some.injEq] at ho
        subst ho
        rw [if_pos (wantR_none rfl)]
        have d7 := hdep ⟨0, .data⟩ (by simp) rfl _ rfl 7 rfl
        change ρ (.tmp 7) = _ at d7
        generalize hR : (fun (u : Value) (w' : World) => Below w9.heap.size w9 w' ∧ _) = R
        clear hout hcon hdep
        go_simp
        subst hR
        exact ⟨hCx, fun s u h => h, fun d hd => (by obtain rfl : 8 = d := Option.some.inj hd; exact rfl)⟩
      | 2, ho =>
        simp only [List.getElem?_toArray, List.getElem?_cons_zero, List.getElem?_cons_succ, Option.some.injEq] at ho
        subst ho
        rw [if_pos (wantR_none rfl)]
        have d8 := hdep ⟨1, .data⟩ (by simp) rfl _ rfl 8 rfl
        change ρ (.tmp 8) = _ at d8
        generalize hR : (fun (u : Value) (w' : World) => Below w9.heap.size w9 w' ∧ _) = R
        clear hout hcon hdep
        go_simp
        rw [stepOk_enter]
        refine (HU.out _).mono ?_
        rintro e w2 ⟨rfl, rfl⟩
        subst hR
        exact ⟨_, rfl, hCx, fun s u h => h, fun d hd => (by obtain rfl : 9 = d := Option.some.inj hd; exact rfl)⟩
      | 3, ho =>
        simp only [List.getElem?_toArray, List.getElem?_cons_zero, List.getElem?_cons_succ, Option.some.injEq] at ho
        subst ho
        rw [if_pos (wantR_none rfl)]
        have d9 := hdep ⟨2, .data⟩ (by simp) rfl _ rfl 9 rfl
        change ρ (.tmp 9) = _ at d9
        generalize hR : (fun (u : Value) (w' : World) => Below w9.heap.size w9 w' ∧ _) = R
        clear hout hcon hdep
        go_simp
        subst hR
        exact ⟨hCx, fun s u h => h, fun d hd => (by obtain rfl : 10 = d := Option.some.inj hd; exact rfl)⟩
      | 4, ho =>
        simp only [List.getElem?_toArray, List.getElem?_cons_zero, List.getElem?_cons_succ, Option.some.injEq] at ho
        subst ho
        rw [if_pos (wantR_none rfl)]
        have d10 := hdep ⟨3, .data⟩ (by simp) rfl _ rfl 10 rfl
        change ρ (.tmp 10) = _ at d10
        generalize hR : (fun (u : Value) (w' : World) => Below w9.heap.size w9 w' ∧ _) = R
        clear hout hcon hdep
        go_simp
        subst hR
        exact ⟨hCx, fun s u h => h, fun d hd => (by obtain rfl : 11 = d := Option.some.inj hd; exact rfl)⟩
      | 5, ho =>
        simp only [List.getElem?_toArray, List.getElem?_cons_zero, List.getElem?_cons_succ, Option.some.injEq] at ho
        subst ho
        have dG := hdep ⟨4, .guard⟩ (by simp) rfl _ rfl 11 rfl
        change ρ (.tmp 11) = _ at dG
        rw [if_pos (by rw [wantR_some rfl rfl rfl dG]; decide)]
        clear dG
        generalize hR : (fun (u : Value) (w' : World) => Below w9.heap.size w9 w' ∧ _) = R
        clear hout hcon hdep
        go_simp
        subst hR
        exact ⟨hCx, fun s u h => h, fun d hd => (by obtain rfl : 12 = d := Option.some.inj hd; exact rfl)⟩
      | 6, ho =>
        simp only [List.getElem?_toArray, List.getElem?_cons_zero, List.getElem?_cons_succ, Option.some.injEq] at ho
        subst ho
        have dG := hdep ⟨4, .guard⟩ (by simp) rfl _ rfl 11 rfl
        change ρ (.tmp 11) = _ at dG
        rw [if_pos (by rw [wantR_some rfl rfl rfl dG]; decide)]
        clear dG
        generalize hR : (fun (u : Value) (w' : World) => Below w9.heap.size w9 w' ∧ _) = R
        clear hout hcon hdep
        go_simp
        subst hR
        exact ⟨hCx, fun s u h => h, fun d hd => (by obtain rfl : 13 = d := Option.some.inj hd; exact rfl)⟩
      | 7, ho =>
        simp only [List.getElem?_toArray, List.getElem?_cons_zero, List.getElem?_cons_succ, Option.some.injEq] at ho
        subst ho
        have dG := hdep ⟨4, .guard⟩ (by simp) rfl _ rfl 11 rfl
        change ρ (.tmp 11) = _ at dG
        rw [if_pos (by rw [wantR_some rfl rfl rfl dG]; decide)]
        clear dG
        have d13 := hdep ⟨6, .data⟩ (by simp) rfl _ rfl 13 rfl
        change ρ (.tmp 13) = _ at d13
        generalize hR : (fun (u : Value) (w' : World) => Below w9.heap.size w9 w' ∧ _) = R
        clear hout hcon hdep
        go_simp
        rw [stepOk_enter]
        refine (rtrim_any c A cap wx (HR9.out.below hCx) (by have := HL.out; omega)).mono ?_
        rintro e w2 ⟨TB, tc, rfl, hi2, hb2⟩
        subst hR
        exact ⟨_, rfl, hCx.trans (hb2.mono hCx.size), goodBy_stay hb2, fun d hd => (by obtain rfl : 14 = d := Option.some.inj hd; exact ⟨TB, tc, by rw [HTR.out], by rw [HTR.out]; exact hi2⟩)⟩
      | 8, ho =>
        simp only [List.getElem?_toArray, List.getElem?_cons_zero, List.getElem?_cons_succ, Option.some.injEq] at ho
        subst ho
        have dG := hdep ⟨4, .guard⟩ (by simp) rfl _ rfl 11 rfl
        change ρ (.tmp 11) = _ at dG
        rw [if_pos (by rw [wantR_some rfl rfl rfl dG]; decide)]
        clear dG
        have d12 := hdep ⟨5, .data⟩ (by simp) rfl _ rfl 12 rfl
        change ρ (.tmp 12) = _ at d12
        have d14 := hdep ⟨7, .data⟩ (by simp) rfl _ rfl 14 rfl
        change (TrimGood c) (ρ (.tmp 14)) wx at d14
        generalize hR : (fun (u : Value) (w' : World) => Below w9.heap.size w9 w' ∧ _) = R
        clear hout hcon hdep
        go_simp
        obtain ⟨TB, tc, ht, hi⟩ := d14
        go_simp
        rw [stepOk_enter]
        refine (HSM.out wx TB tc (HR9.out.below hCx) hi).mono ?_
        rintro e w2 ⟨rfl, hb2⟩
        subst hR
        exact ⟨_, rfl, hCx.trans (hb2.mono hCx.size), goodBy_stay hb2, fun d hd => (by obtain rfl : 15 = d := Option.some.inj hd; exact rfl)⟩
      | 9, ho =>
        simp only [List.getElem?_toArray, List.getElem?_cons_zero, List.getElem?_cons_succ, Option.some.injEq] at ho
        subst ho
        have dG := hdep ⟨4, .guard⟩ (by simp) rfl _ rfl 11 rfl
        change ρ (.tmp 11) = _ at dG
        rw [if_pos (by rw [wantR_some rfl rfl rfl dG]; decide)]
        clear dG
        have d15 := hdep ⟨8, .data⟩ (by simp) rfl _ rfl 15 rfl
        change ρ (.tmp 15) = _ at d15
        generalize hR : (fun (u : Value) (w' : World) => Below w9.heap.size w9 w' ∧ _) = R
        clear hout hcon hdep
        go_simp
        subst hR
        exact ⟨hCx, fun s u h => h, fun d hd => (by obtain rfl : 16 = d := Option.some.inj hd; exact rfl)⟩
      | 10, ho =>
        simp only [List.getElem?_toArray, List.getElem?_cons_zero, List.getElem?_cons_succ, Option.some.injEq] at ho
        subst ho
        rw [if_pos (wantR_none rfl)]
        have d11 := hdep ⟨4, .data⟩ (by simp) rfl _ rfl 11 rfl
        change ρ (.tmp 11) = _ at d11
        have d16 := hdep ⟨9, .data⟩ (by simp) rfl _ rfl 16 rfl
        change ρ (.tmp 16) = _ at d16
        generalize hR : (fun (u : Value) (w' : World) => Below w9.heap.size w9 w' ∧ _) = R
        clear hout hcon hdep
        go_simp
        subst hR
        exact ⟨hCx, fun s u h => h, fun d hd => (by obtain rfl : 17 = d := Option.some.inj hd; exact rfl)⟩
      | 11, ho =>
        simp only [List.getElem?_toArray, List.getElem?_cons_zero, List.getElem?_cons_succ, Option.some.injEq] at ho
        subst ho
        rw [if_pos (wantR_none rfl)]
        have d17 := hdep ⟨10, .data⟩ (by simp) rfl _ rfl 17 rfl
        change ρ (.tmp 17) = _ at d17
        generalize hR : (fun (u : Value) (w' : World) => Below w9.heap.size w9 w' ∧ _) = R
        clear hout hcon hdep
        go_simp
        subst hR
        exact ⟨hCx, fun s u h => h, fun d hd => (by obtain rfl : 18 = d := Option.some.inj hd; exact rfl)⟩
      | 12, ho =>
        simp only [List.getElem?_toArray, List.getElem?_cons_zero, List.getElem?_cons_succ, Option.some.injEq] at ho
        subst ho
        have dG := hdep ⟨11, .guard⟩ (by simp) rfl _ rfl 18 rfl
        change ρ (.tmp 18) = _ at dG
        rw [if_pos (by rw [wantR_some rfl rfl rfl dG]; decide)]
        clear dG
        generalize hR : (fun (u : Value) (w' : World) => Below w9.heap.size w9 w' ∧ _) = R
        clear hout hcon hdep
        go_simp
        subst hR
        exact ⟨hCx, fun s u h => h, fun d hd => (by obtain rfl : 19 = d := Option.some.inj hd; exact rfl)⟩
      | 13, ho =>
        simp only [List.getElem?_toArray, List.getElem?_cons_zero, List.getElem?_cons_succ, Option.some.injEq] at ho
        subst ho
        have dG := hdep ⟨11, .guard⟩ (by simp) rfl _ rfl 18 rfl
        change ρ (.tmp 18) = _ at dG
        rw [if_pos (by rw [wantR_some rfl rfl rfl dG]; decide)]
        clear dG
        have d19 := hdep ⟨12, .data⟩ (by simp) rfl _ rfl 19 rfl
        change ρ (.tmp 19) = _ at d19
        generalize hR : (fun (u : Value) (w' : World) => Below w9.heap.size w9 w' ∧ _) = R
        clear hout hcon hdep
        go_simp
        subst hR
        exact ⟨hCx, fun s u h => h, fun d hd => (by obtain rfl : 20 = d := Option.some.inj hd; exact rfl)⟩
      | 14, ho =>
        simp only [List.getElem?_toArray, List.getElem?_cons_zero, List.getElem?_cons_succ, Option.some.injEq] at ho
        subst ho
        have dG := hdep ⟨11, .guard⟩ (by simp) rfl _ rfl 18 rfl
        change ρ (.tmp 18) = _ at dG
        rw [if_pos (by rw [wantR_some rfl rfl rfl dG]; decide)]
        clear dG
        have d20 := hdep ⟨13, .data⟩ (by simp) rfl _ rfl 20 rfl
        change ρ (.tmp 20) = _ at d20
        generalize hR : (fun (u : Value) (w' : World) => Below w9.heap.size w9 w' ∧ _) = R
        clear hout hcon hdep
        go_simp
        subst hR
        exact ⟨hCx, fun s u h => h, fun d hd => (by obtain rfl : 21 = d := Option.some.inj hd; exact rfl)⟩
      | 15, ho =>
        simp only [List.getElem?_toArray, List.getElem?_cons_zero, List.getElem?_cons_succ, Option.some.injEq] at ho
        subst ho
        rw [if_pos (wantR_none rfl)]
        have d18 := hdep ⟨11, .data⟩ (by simp) rfl _ rfl 18 rfl
        change ρ (.tmp 18) = _ at d18
        have d21 := hdep ⟨14, .data⟩ (by simp) rfl _ rfl 21 rfl
        change ρ (.tmp 21) = _ at d21
        generalize hR : (fun (u : Value) (w' : World) => Below w9.heap.size w9 w' ∧ _) = R
        clear hout hcon hdep
        go_simp
        subst hR
        exact ⟨hCx, fun s u h => h, fun d hd => (by obtain rfl : 22 = d := Option.some.inj hd; exact rfl)⟩
      | 16, ho =>
        simp only [List.getElem?_toArray, List.getElem?_cons_zero, List.getElem?_cons_succ, Option.some.injEq] at ho
        subst ho
        rw [if_pos (wantR_none rfl)]
        have d22 := hdep ⟨15, .data⟩ (by simp) rfl _ rfl 22 rfl
        change ρ (.tmp 22) = _ at d22
        generalize hR : (fun (u : Value) (w' : World) => Below w9.heap.size w9 w' ∧ _) = R
        clear hout hcon hdep
        go_simp
        subst hR
        exact ⟨hCx, fun s u h => h, fun d hd => (by obtain rfl : 23 = d := Option.some.inj hd; exact rfl)⟩
      | 17, ho =>
        simp only [List.getElem?_toArray, List.getElem?_cons_zero, List.getElem?_cons_succ, Option.some.injEq] at ho
        subst ho
        have dG := hdep ⟨16, .guard⟩ (by simp) rfl _ rfl 23 rfl
        change ρ (.tmp 23) = _ at dG
        rw [if_pos (by rw [wantR_some rfl rfl rfl dG]; decide)]
        clear dG
        generalize hR : (fun (u : Value) (w' : World) => Below w9.heap.size w9 w' ∧ _) = R
        clear hout hcon hdep
        go_simp
        subst hR
        exact ⟨hCx, fun s u h => h, fun d hd => (by obtain rfl : 24 = d := Option.some.inj hd; exact rfl)⟩
      | 18, ho =>
        simp only [List.getElem?_toArray, List.getElem?_cons_zero, List.getElem?_cons_succ, Option.some.injEq] at ho
        subst ho
        have dG := hdep ⟨16, .guard⟩ (by simp) rfl _ rfl 23 rfl
        change ρ (.tmp 23) = _ at dG
        rw [if_pos (by rw [wantR_some rfl rfl rfl dG]; decide)]
        clear dG
        have d24 := hdep ⟨17, .data⟩ (by simp) rfl _ rfl 24 rfl
        change ρ (.tmp 24) = _ at d24
        generalize hR : (fun (u : Value) (w' : World) => Below w9.heap.size w9 w' ∧ _) = R
        clear hout hcon hdep
        go_simp
        subst hR
        exact ⟨hCx, fun s u h => h, fun d hd => (by obtain rfl : 25 = d := Option.some.inj hd; exact rfl)⟩
      | 19, ho =>
        simp only [List.getElem?_toArray, List.getElem?_cons_zero, List.getElem?_cons_succ, Option.some.injEq] at ho
        subst ho
        have dG := hdep ⟨16, .guard⟩ (by simp) rfl _ rfl 23 rfl
        change ρ (.tmp 23) = _ at dG
        rw [if_pos (by rw [wantR_some rfl rfl rfl dG]; decide)]
        clear dG
        have d25 := hdep ⟨18, .data⟩ (by simp) rfl _ rfl 25 rfl
        change ρ (.tmp 25) = _ at d25
        generalize hR : (fun (u : Value) (w' : World) => Below w9.heap.size w9 w' ∧ _) = R
        clear hout hcon hdep
        go_simp
        rw [stepOk_enter]
        refine (HLL.out _).mono ?_
        rintro e w2 ⟨rfl, rfl⟩
        subst hR
        exact ⟨_, rfl, hCx, fun s u h => h, fun d hd => (by obtain rfl : 26 = d := Option.some.inj hd; exact rfl)⟩
      | 20, ho =>
        simp only [List.getElem?_toArray, List.getElem?_cons_zero, List.getElem?_cons_succ, Option.some.injEq] at ho
        subst ho
        have dG := hdep ⟨16, .guard⟩ (by simp) rfl _ rfl 23 rfl
        change ρ (.tmp 23) = _ at dG
        rw [if_pos (by rw [wantR_some rfl rfl rfl dG]; decide)]
        clear dG
        have d26 := hdep ⟨19, .data⟩ (by simp) rfl _ rfl 26 rfl
        change ρ (.tmp 26) = _ at d26
        generalize hR : (fun (u : Value) (w' : World) => Below w9.heap.size w9 w' ∧ _) = R
        clear hout hcon hdep
        go_simp
        subst hR
        exact ⟨hCx, fun s u h => h, fun d hd => (by obtain rfl : 27 = d := Option.some.inj hd; exact rfl)⟩
      | 21, ho =>
        simp only [List.getElem?_toArray, List.getElem?_cons_zero, List.getElem?_cons_succ, Option.some.injEq] at ho
        subst ho
        have dG := hdep ⟨20, .guard⟩ (by simp) rfl _ rfl 27 rfl
        change ρ (.tmp 27) = _ at dG
        rw [if_neg (by rw [wantR_some rfl rfl rfl dG]; decide)]
        exact fun d hd => (by obtain rfl : 28 = d := Option.some.inj hd; exact rfl)
      | 22, ho =>
        simp only [List.getElem?_toArray, List.getElem?_cons_zero, List.getElem?_cons_succ, Option.some.injEq] at ho
        subst ho
        have dG := hdep ⟨20, .guard⟩ (by simp) rfl _ rfl 27 rfl
        change ρ (.tmp 27) = _ at dG
        rw [if_neg (by rw [wantR_some rfl rfl rfl dG]; decide)]
        exact fun d hd => (by obtain rfl : 29 = d := Option.some.inj hd; exact rfl)
      | 23, ho =>
        simp only [List.getElem?_toArray, List.getElem?_cons_zero, List.getElem?_cons_succ, Option.some.injEq] at ho
        subst ho
        have dG := hdep ⟨20, .guard⟩ (by simp) rfl _ rfl 27 rfl
        change ρ (.tmp 27) = _ at dG
        rw [if_neg (by rw [wantR_some rfl rfl rfl dG]; decide)]
        exact fun d hd => (by obtain rfl : 30 = d := Option.some.inj hd; exact rfl)
      | 24, ho =>
        simp only [List.getElem?_toArray, List.getElem?_cons_zero, List.getElem?_cons_succ, Option.some.injEq] at ho
        subst ho
        have dG := hdep ⟨16, .guard⟩ (by simp) rfl _ rfl 23 rfl
        change ρ (.tmp 23) = _ at dG
        rw [if_pos (by rw [wantR_some rfl rfl rfl dG]; decide)]
        clear dG
        have d27 := hdep ⟨20, .data⟩ (by simp) rfl _ rfl 27 rfl
        change ρ (.tmp 27) = _ at d27
        have d30 := hdep ⟨23, .data⟩ (by simp) rfl _ rfl 30 rfl
        change ρ (.tmp 30) = _ at d30
        generalize hR : (fun (u : Value) (w' : World) => Below w9.heap.size w9 w' ∧ _) = R
        clear hout hcon hdep
        go_simp
        subst hR
        exact ⟨hCx, fun s u h => h, fun d hd => (by obtain rfl : 31 = d := Option.some.inj hd; exact rfl)⟩
      | 25, ho =>
        simp only [List.getElem?_toArray, List.getElem?_cons_zero, List.getElem?_cons_succ, Option.some.injEq] at ho
        subst ho
        rw [if_pos (wantR_none rfl)]
        have d23 := hdep ⟨16, .data⟩ (by simp) rfl _ rfl 23 rfl
        change ρ (.tmp 23) = _ at d23
        have d31 := hdep ⟨24, .data⟩ (by simp) rfl _ rfl 31 rfl
        change ρ (.tmp 31) = _ at d31
        generalize hR : (fun (u : Value) (w' : World) => Below w9.heap.size w9 w' ∧ _) = R
        clear hout hcon hdep
        go_simp
        subst hR
        exact ⟨hCx, fun s u h => h, fun d hd => (by obtain rfl : 32 = d := Option.some.inj hd; exact rfl)⟩
      | n + 26, ho => exact absurd ho (by simp)
    · intro uz wA hCA hg
      have qA : uz 32 = .bool false := hg 25 _ rfl 32 rfl
      generalize hds : dstsOf _ = ds
      obtain rfl : ds = [7, 8, 9, 10, 11, 12, 13, 14, 15, 16, 17, 18, 19, 20, 21, 22, 23, 24, 25, 26, 27, 28, 29, 30, 31, 32] := hds.symm.trans rfl
      simp only [List.foldl_cons, List.foldl_nil, List.setIfInBounds_toArray, List.set_cons_zero, List.set_cons_succ]
      rw [qA]
      clear hg qA
      have HL := Lib.hid (reqs_few HC.out.op HYES.out)
      have HXA := Lib.hid (HX9.out.below hCA)
      have HRA := Lib.hid (HR9.out.below hCA)
      have HBA := Lib.hid (HB9.out.trans (hCA.mono HB9.out.size))
      clear hCA HX9 HR9 HB9 HSM HLI hd2 HLL dt
      have x0 := HXA.out.at.g0
      have HWO := Lib.hid (word16_any c.kind hk1 hk22 wA)
      obtain ⟨WB, hWB⟩ : ∃ WB : ByteArray, (⟨(wordK c.kind).toArray⟩ : ByteArray) = WB := ⟨_, rfl⟩
      rw [hWB] at HWO
      have hWBs : WB.size ≤ 20 := by
        rw [← hWB]
        show (wordK c.kind).length ≤ 20
        unfold wordK
        split
        · exact words_len _
        · simp
      have HWB := Lib.hid hWB
      clear hWB
      go_upto_region 3 with fail
      go_wp2_with fail
      refine HWO.out.mono ?_
      rintro e wB ⟨rfl, hbB⟩
      have HXB := Lib.hid (HXA.out.below hbB)
      have HRB := Lib.hid (HRA.out.below hbB)
      have HBB := Lib.hid (HBA.out.trans (hbB.mono HBA.out.size))
      clear hbB x0 HWO HXA HRA HBA
      have x0 := HXB.out.at.g0
      go_upto_region 4 with fail
      go_wp2_with fail
      refine (HU.out _).mono ?_
      rintro e wB ⟨rfl, rfl⟩
      have hz : u.size ≤ 5 := by
        have := usesS_len c.kind
        rw [← HUL.out] at this
        exact this
      have HLEN := Lib.hid (show u.data.toList.length = u.size by simp)
      have HAT := Lib.hid (fun (j : Nat) (h1 : j < u.data.toList.length) (h2 : j < u.size) => (show u.data.toList[j] = u[j] from rfl))
      have HLET := Lib.hid (letters c.kind)
      rw [← HUL.out] at HLET
      clear x0 HU
      go_wp2_with fail
      go_loopg [4, 6] (u.size + 1) (fun g2 s i wx => ∃ (k : Nat) (S : ByteArray), i = .int .i64 k ∧ s = .string S ∧ k ≤ u.size ∧ u.size - k < g2 ∧ S.size ≤ 30 + 1510 * k ∧ Hid (S = ⟨(wordK c.kind ++ [40] ++ Lib.join ((u.data.toList.take k).map (letT c)) [44, 32]).toArray⟩) ∧ Hid (Below wB.heap.size wB wx))
      case atStart => exact ⟨0, WB ++ ⟨#[40]⟩, rfl, rfl, by omega, by omega, by rw [ByteArray.size_append, show (⟨#[40]⟩ : ByteArray).size = 1 from rfl]; omega, Lib.hid (by rw [← HWB.out, show (⟨#[40]⟩ : ByteArray) = ⟨([40] : List UInt8).toArray⟩ from rfl, ba_app16]; simp [Lib.join_nil]), Lib.hid (Below.refl _ _)⟩
      case round =>
        obtain ⟨k, S, rfl, rfl, hk, hg2, hS, HS, HBX⟩ := hrel
        obtain ⟨g, rfl⟩ : ∃ g, gk = g + 1 := ⟨gk - 1, by omega⟩
        have HBBX := Lib.hid (HBB.out.trans (HBX.out.mono HBB.out.size))
        by_cases hlt : k < u.size
        · have hdl : decide (k < u.size) = true := by simpa using hlt
          have hll : k < u.data.toList.length := by rw [HLEN.out]; exact hlt
          have hmem := HLET.out u.data.toList[k] (List.getElem_mem hll)
          have htk : (u.data.toList.take (k + 1)).map (letT c) = (u.data.toList.take k).map (letT c) ++ [letT c u.data.toList[k]] := by rw [List.take_succ_eq_append_getElem hll, List.map_append]; rfl
          rw [HAT.out k hll hlt] at hmem htk
          have HTK := Lib.hid htk
          have hls := letB_size HC.out HL.out u[k]
          have HLB2 := Lib.hid (show letB c u[k] = ⟨(letT c u[k]).toArray⟩ from rfl)
          have HXW := Lib.hid (HXB.out.below HBX.out)
          have HRW := Lib.hid (HRB.out.below HBX.out)
          have x1 := HXW.out.at.g1
          have x2 := HXW.out.at.g2
          have x3 := HXW.out.at.g3
          have x4 := HXW.out.at.g4
          have x5 := HXW.out.at.g5
          have x6 := HXW.out.at.g6
          have x7 := HXW.out.at.g7
          have x8 := HXW.out.at.g8
          have x9 := HXW.out.at.g9
          have xA := HXW.out.at.gA
          have HVAL := Lib.hid (show ∀ b : UInt8, u[k] = b → ((u[k].toNat : Nat) : Int) = (b.toNat : Int) from fun b h => by rw [h])
          have HLV := Lib.hid (show ∀ b : UInt8, u[k] = b → letB c u[k] = letB c b from fun b h => by rw [h])
          clear htk
          generalize letB c u[k] = T at *
          have HAPP := Lib.hid (show ∀ S2 : ByteArray, (if k = 0 then S2 = S else S2 = S ++ ⟨#[44, 32]⟩) → S2 ++ T = ⟨(wordK c.kind ++ [40] ++ Lib.join ((u.data.toList.take (k + 1)).map (letT c)) [44, 32]).toArray⟩ from fun S2 h2 => by
            rw [HTK.out, HLB2.out]
            by_cases hk0 : k = 0
            · rw [if_pos hk0] at h2
              subst hk0
              rw [h2, HS.out, ba_app16]
              simp [Lib.join_one, Lib.join_nil]
            · rw [if_neg hk0] at h2
              rw [h2, HS.out, join_snoc _ _ _ (fun h => by have := congrArg List.length h; rw [List.length_map, List.length_take, List.length_nil, HLEN.out] at this; omega), show (⟨#[44, 32]⟩ : ByteArray) = ⟨([44, 32] : List UInt8).toArray⟩ from rfl, ba_app16, ba_app16]
              simp)
          by_cases hk0 : k = 0
          · subst hk0
            have hd0 : decide ((0 : Int) < ((0 : Nat) : Int)) = false := by decide
            have HAP := Lib.hid (HAPP.out S rfl)
            go_upto_region 10 with fail
            rcases hmem with hc | hc | hc | hc | hc | hc | hc | hc | hc
            · have hv := HVAL.out 99 hc
              have HTB := Lib.hid (HLV.out 99 hc)
              simp only [show ((99 : UInt8).toNat : Int) = 99 from rfl] at hv
              clear hc
              have HNU := Lib.hid (num16_any c.comm HC.out.comm wr)
              rw [show itoaB c.comm = letB c 99 from rfl, ← HTB.out] at HNU
              go_wp2_with fail
              refine HNU.out.mono ?_
              rintro e w2 ⟨rfl, hb2⟩
              clear HNU
              have HB2 := Lib.hid (HBX.out.trans (hb2.mono HBX.out.size))
              clear hb2 x1 x2 x3 x4 x5 x6 x7 x8 x9 xA hv
              go_wp2_with fail
              go_roundg g
              case measure => omega
              case rel => exact ⟨0 + 1, S ++ T, by go_num, rfl, by omega, by omega, by rw [ByteArray.size_append]; omega, HAP, HB2⟩
            · have hv := HVAL.out 112 hc
              have HTB := Lib.hid (HLV.out 112 hc)
              simp only [show ((112 : UInt8).toNat : Int) = 112 from rfl] at hv
              clear hc
              have HNU := Lib.hid (num16_any c.peer HC.out.peer wr)
              rw [show itoaB c.peer = letB c 112 from rfl, ← HTB.out] at HNU
              go_wp2_with fail
              refine HNU.out.mono ?_
              rintro e w2 ⟨rfl, hb2⟩
              clear HNU
              have HB2 := Lib.hid (HBX.out.trans (hb2.mono HBX.out.size))
              clear hb2 x1 x2 x3 x4 x5 x6 x7 x8 x9 xA hv
              go_wp2_with fail
              go_roundg g
              case measure => omega
              case rel => exact ⟨0 + 1, S ++ T, by go_num, rfl, by omega, by omega, by rw [ByteArray.size_append]; omega, HAP, HB2⟩
            · have hv := HVAL.out 116 hc
              have HTB := Lib.hid (HLV.out 116 hc)
              simp only [show ((116 : UInt8).toNat : Int) = 116 from rfl] at hv
              clear hc
              have HNU := Lib.hid (num16_any c.tag HC.out.tag wr)
              rw [show itoaB c.tag = letB c 116 from rfl, ← HTB.out] at HNU
              go_wp2_with fail
              refine HNU.out.mono ?_
              rintro e w2 ⟨rfl, hb2⟩
              clear HNU
              have HB2 := Lib.hid (HBX.out.trans (hb2.mono HBX.out.size))
              clear hb2 x1 x2 x3 x4 x5 x6 x7 x8 x9 xA hv
              go_wp2_with fail
              go_roundg g
              case measure => omega
              case rel => exact ⟨0 + 1, S ++ T, by go_num, rfl, by omega, by omega, by rw [ByteArray.size_append]; omega, HAP, HB2⟩
            · have hv := HVAL.out 118 hc
              have HTB := Lib.hid (HLV.out 118 hc)
              simp only [show ((118 : UInt8).toNat : Int) = 118 from rfl] at hv
              clear hc
              have HNU := Lib.hid (number_any c.value HC.out.value.1 HC.out.value.2 wr)
              rw [show (⟨(Lib.itoa c.value).toArray⟩ : ByteArray) = letB c 118 from rfl, ← HTB.out] at HNU
              go_wp2_with fail
              refine HNU.out.mono ?_
              rintro e w2 ⟨rfl, hb2⟩
              clear HNU
              have HB2 := Lib.hid (HBX.out.trans (hb2.mono HBX.out.size))
              clear hb2 x1 x2 x3 x4 x5 x6 x7 x8 x9 xA hv
              go_wp2_with fail
              go_roundg g
              case measure => omega
              case rel => exact ⟨0 + 1, S ++ T, by go_num, rfl, by omega, by omega, by rw [ByteArray.size_append]; omega, HAP, HB2⟩
            · have hv := HVAL.out 115 hc
              have HTB := Lib.hid (HLV.out 115 hc)
              simp only [show ((115 : UInt8).toNat : Int) = 115 from rfl] at hv
              clear hc
              have HNU := Lib.hid (num16_any c.size HC.out.size wr)
              rw [show itoaB c.size = letB c 115 from rfl, ← HTB.out] at HNU
              go_wp2_with fail
              refine HNU.out.mono ?_
              rintro e w2 ⟨rfl, hb2⟩
              clear HNU
              have HB2 := Lib.hid (HBX.out.trans (hb2.mono HBX.out.size))
              clear hb2 x1 x2 x3 x4 x5 x6 x7 x8 x9 xA hv
              go_wp2_with fail
              go_roundg g
              case measure => omega
              case rel => exact ⟨0 + 1, S ++ T, by go_num, rfl, by omega, by omega, by rw [ByteArray.size_append]; omega, HAP, HB2⟩
            · have hv := HVAL.out 114 hc
              have HTB := Lib.hid (HLV.out 114 hc)
              simp only [show ((114 : UInt8).toNat : Int) = 114 from rfl] at hv
              clear hc
              have HNU := Lib.hid (num16_any c.root HC.out.root wr)
              rw [show itoaB c.root = letB c 114 from rfl, ← HTB.out] at HNU
              go_wp2_with fail
              refine HNU.out.mono ?_
              rintro e w2 ⟨rfl, hb2⟩
              clear HNU
              have HB2 := Lib.hid (HBX.out.trans (hb2.mono HBX.out.size))
              clear hb2 x1 x2 x3 x4 x5 x6 x7 x8 x9 xA hv
              go_wp2_with fail
              go_roundg g
              case measure => omega
              case rel => exact ⟨0 + 1, S ++ T, by go_num, rfl, by omega, by omega, by rw [ByteArray.size_append]; omega, HAP, HB2⟩
            · have hv := HVAL.out 111 hc
              have HTB := Lib.hid (HLV.out 111 hc)
              simp only [show ((111 : UInt8).toNat : Int) = 111 from rfl] at hv
              clear hc
              have HNU := Lib.hid (red16_any c.op HC.out.op.1 HO.out wr)
              rw [show (⟨(redK c.op).toArray⟩ : ByteArray) = letB c 111 from rfl, ← HTB.out] at HNU
              go_wp2_with fail
              refine HNU.out.mono ?_
              rintro e wr ⟨rfl, rfl⟩
              have hb2 := Below.refl wr.heap.size wr
              clear HNU
              have HB2 := Lib.hid (HBX.out.trans (hb2.mono HBX.out.size))
              clear hb2 x1 x2 x3 x4 x5 x6 x7 x8 x9 xA hv
              go_wp2_with fail
              go_roundg g
              case measure => omega
              case rel => exact ⟨0 + 1, S ++ T, by go_num, rfl, by omega, by omega, by rw [ByteArray.size_append]; omega, HAP, HB2⟩
            · have hv := HVAL.out 107 hc
              have HTB := Lib.hid (HLV.out 107 hc)
              simp only [show ((107 : UInt8).toNat : Int) = 107 from rfl] at hv
              clear hc
              have HN1 := Lib.hid (fun (wx : World) => num16_any c.color HC.out.color wx)
              have HN2 := Lib.hid (fun (wx : World) => num16_any c.key HC.out.key wx)
              have hc1 := itoaB_small HC.out.color
              have hc2 := itoaB_small HC.out.key
              have HTT := Lib.hid (show itoaB c.color ++ ⟨#[44, 32]⟩ ++ itoaB c.key = T by
                rw [HTB.out, show (⟨#[44, 32]⟩ : ByteArray) = ⟨([44, 32] : List UInt8).toArray⟩ from rfl]
                unfold itoaB
                rw [ba_app16, ba_app16]
                rfl)
              generalize itoaB c.color = C1 at *
              generalize itoaB c.key = C2 at *
              have k9 := fun d os => cell_regrown x9 d os
              have kA := fun d os => cell_regrown xA d os
              have hs1 : ¬ 9223372036854775807 < S.size + C1.size := by omega
              have hs2 : ¬ 9223372036854775807 < S.size + C1.size + 2 := by omega
              have hs3 : ¬ 9223372036854775807 < S.size + C1.size + 2 + C2.size := by omega
              go_upto_region 26 with fail
              refine wp_region_quiet_below (by kernel_rfl) (by kernel_rfl) ?_
              repeat (quiet_step (first | (with_reducible exact Calls.regrown_of (HN1.out _)) | (with_reducible exact Calls.regrown_of (HN2.out _))))
              refine wpQuiet_nil ?_
              intro _ hw'
              obtain ⟨⟨dq, osq⟩, hw''⟩ := hw'
              subst hw''
              have hb2 := below_regrown wr dq osq
              clear k9 kA hs1 hs2 hs3 HN1 HN2
              generalize grow (redrawn wr dq) osq = w2 at *
              have HAQ := Lib.hid (show S ++ C1 ++ ⟨#[44, 32]⟩ ++ C2 = S ++ T by rw [← HTT.out, ByteArray.append_assoc, ByteArray.append_assoc, ByteArray.append_assoc])
              rw [HAQ.out]
              have HB2 := Lib.hid (HBX.out.trans (hb2.mono HBX.out.size))
              clear hb2 x1 x2 x3 x4 x5 x6 x7 x8 x9 xA hv
              go_wp2_with fail
              go_roundg g
              case measure => omega
              case rel => exact ⟨0 + 1, S ++ T, by go_num, rfl, by omega, by omega, by rw [ByteArray.size_append]; omega, HAP, HB2⟩
            · have hv := HVAL.out 108 hc
              have HTB := Lib.hid (HLV.out 108 hc)
              simp only [show ((108 : UInt8).toNat : Int) = 108 from rfl] at hv
              clear hc
              have HNU := Lib.hid (list16_any A cap c.reqs wr HRW.out (by have := HL.out; omega) HC.out.reqs)
              rw [show (⟨(Lib.join (c.reqs.map Lib.itoa) [44, 32]).toArray⟩ : ByteArray) = letB c 108 from rfl, ← HTB.out] at HNU
              go_wp2_with fail
              refine HNU.out.mono ?_
              rintro e w2 ⟨rfl, hb2⟩
              clear HNU
              have HB2 := Lib.hid (HBX.out.trans (hb2.mono HBX.out.size))
              clear hb2 x1 x2 x3 x4 x5 x6 x7 x8 x9 xA hv
              go_wp2_with fail
              go_roundg g
              case measure => omega
              case rel => exact ⟨0 + 1, S ++ T, by go_num, rfl, by omega, by omega, by rw [ByteArray.size_append]; omega, HAP, HB2⟩
          · have hd0 : decide ((0 : Int) < (k : Int)) = true := by simp; omega
            have HAP := Lib.hid (HAPP.out (S ++ ⟨#[44, 32]⟩) (by rw [if_neg hk0]))
            go_upto_region 10 with fail
            have hS2 : (S ++ (⟨#[44, 32]⟩ : ByteArray)).size ≤ 32 + 1510 * k := by rw [ByteArray.size_append, show (⟨#[44, 32]⟩ : ByteArray).size = 2 from rfl]; omega
            generalize S ++ (⟨#[44, 32]⟩ : ByteArray) = S2 at *
            rcases hmem with hc | hc | hc | hc | hc | hc | hc | hc | hc
            · have hv := HVAL.out 99 hc
              have HTB := Lib.hid (HLV.out 99 hc)
              simp only [show ((99 : UInt8).toNat : Int) = 99 from rfl] at hv
              clear hc
              have HNU := Lib.hid (num16_any c.comm HC.out.comm wr)
              rw [show itoaB c.comm = letB c 99 from rfl, ← HTB.out] at HNU
              go_wp2_with fail
              refine HNU.out.mono ?_
              rintro e w2 ⟨rfl, hb2⟩
              clear HNU
              have HB2 := Lib.hid (HBX.out.trans (hb2.mono HBX.out.size))
              clear hb2 x1 x2 x3 x4 x5 x6 x7 x8 x9 xA hv
              go_wp2_with fail
              go_roundg g
              case measure => omega
              case rel => exact ⟨k + 1, S2 ++ T, by go_num, rfl, by omega, by omega, by rw [ByteArray.size_append]; omega, HAP, HB2⟩
            · have hv := HVAL.out 112 hc
              have HTB := Lib.hid (HLV.out 112 hc)
              simp only [show ((112 : UInt8).toNat : Int) = 112 from rfl] at hv
              clear hc
              have HNU := Lib.hid (num16_any c.peer HC.out.peer wr)
              rw [show itoaB c.peer = letB c 112 from rfl, ← HTB.out] at HNU
              go_wp2_with fail
              refine HNU.out.mono ?_
              rintro e w2 ⟨rfl, hb2⟩
              clear HNU
              have HB2 := Lib.hid (HBX.out.trans (hb2.mono HBX.out.size))
              clear hb2 x1 x2 x3 x4 x5 x6 x7 x8 x9 xA hv
              go_wp2_with fail
              go_roundg g
              case measure => omega
              case rel => exact ⟨k + 1, S2 ++ T, by go_num, rfl, by omega, by omega, by rw [ByteArray.size_append]; omega, HAP, HB2⟩
            · have hv := HVAL.out 116 hc
              have HTB := Lib.hid (HLV.out 116 hc)
              simp only [show ((116 : UInt8).toNat : Int) = 116 from rfl] at hv
              clear hc
              have HNU := Lib.hid (num16_any c.tag HC.out.tag wr)
              rw [show itoaB c.tag = letB c 116 from rfl, ← HTB.out] at HNU
              go_wp2_with fail
              refine HNU.out.mono ?_
              rintro e w2 ⟨rfl, hb2⟩
              clear HNU
              have HB2 := Lib.hid (HBX.out.trans (hb2.mono HBX.out.size))
              clear hb2 x1 x2 x3 x4 x5 x6 x7 x8 x9 xA hv
              go_wp2_with fail
              go_roundg g
              case measure => omega
              case rel => exact ⟨k + 1, S2 ++ T, by go_num, rfl, by omega, by omega, by rw [ByteArray.size_append]; omega, HAP, HB2⟩
            · have hv := HVAL.out 118 hc
              have HTB := Lib.hid (HLV.out 118 hc)
              simp only [show ((118 : UInt8).toNat : Int) = 118 from rfl] at hv
              clear hc
              have HNU := Lib.hid (number_any c.value HC.out.value.1 HC.out.value.2 wr)
              rw [show (⟨(Lib.itoa c.value).toArray⟩ : ByteArray) = letB c 118 from rfl, ← HTB.out] at HNU
              go_wp2_with fail
              refine HNU.out.mono ?_
              rintro e w2 ⟨rfl, hb2⟩
              clear HNU
              have HB2 := Lib.hid (HBX.out.trans (hb2.mono HBX.out.size))
              clear hb2 x1 x2 x3 x4 x5 x6 x7 x8 x9 xA hv
              go_wp2_with fail
              go_roundg g
              case measure => omega
              case rel => exact ⟨k + 1, S2 ++ T, by go_num, rfl, by omega, by omega, by rw [ByteArray.size_append]; omega, HAP, HB2⟩
            · have hv := HVAL.out 115 hc
              have HTB := Lib.hid (HLV.out 115 hc)
              simp only [show ((115 : UInt8).toNat : Int) = 115 from rfl] at hv
              clear hc
              have HNU := Lib.hid (num16_any c.size HC.out.size wr)
              rw [show itoaB c.size = letB c 115 from rfl, ← HTB.out] at HNU
              go_wp2_with fail
              refine HNU.out.mono ?_
              rintro e w2 ⟨rfl, hb2⟩
              clear HNU
              have HB2 := Lib.hid (HBX.out.trans (hb2.mono HBX.out.size))
              clear hb2 x1 x2 x3 x4 x5 x6 x7 x8 x9 xA hv
              go_wp2_with fail
              go_roundg g
              case measure => omega
              case rel => exact ⟨k + 1, S2 ++ T, by go_num, rfl, by omega, by omega, by rw [ByteArray.size_append]; omega, HAP, HB2⟩
            · have hv := HVAL.out 114 hc
              have HTB := Lib.hid (HLV.out 114 hc)
              simp only [show ((114 : UInt8).toNat : Int) = 114 from rfl] at hv
              clear hc
              have HNU := Lib.hid (num16_any c.root HC.out.root wr)
              rw [show itoaB c.root = letB c 114 from rfl, ← HTB.out] at HNU
              go_wp2_with fail
              refine HNU.out.mono ?_
              rintro e w2 ⟨rfl, hb2⟩
              clear HNU
              have HB2 := Lib.hid (HBX.out.trans (hb2.mono HBX.out.size))
              clear hb2 x1 x2 x3 x4 x5 x6 x7 x8 x9 xA hv
              go_wp2_with fail
              go_roundg g
              case measure => omega
              case rel => exact ⟨k + 1, S2 ++ T, by go_num, rfl, by omega, by omega, by rw [ByteArray.size_append]; omega, HAP, HB2⟩
            · have hv := HVAL.out 111 hc
              have HTB := Lib.hid (HLV.out 111 hc)
              simp only [show ((111 : UInt8).toNat : Int) = 111 from rfl] at hv
              clear hc
              have HNU := Lib.hid (red16_any c.op HC.out.op.1 HO.out wr)
              rw [show (⟨(redK c.op).toArray⟩ : ByteArray) = letB c 111 from rfl, ← HTB.out] at HNU
              go_wp2_with fail
              refine HNU.out.mono ?_
              rintro e wr ⟨rfl, rfl⟩
              have hb2 := Below.refl wr.heap.size wr
              clear HNU
              have HB2 := Lib.hid (HBX.out.trans (hb2.mono HBX.out.size))
              clear hb2 x1 x2 x3 x4 x5 x6 x7 x8 x9 xA hv
              go_wp2_with fail
              go_roundg g
              case measure => omega
              case rel => exact ⟨k + 1, S2 ++ T, by go_num, rfl, by omega, by omega, by rw [ByteArray.size_append]; omega, HAP, HB2⟩
            · have hv := HVAL.out 107 hc
              have HTB := Lib.hid (HLV.out 107 hc)
              simp only [show ((107 : UInt8).toNat : Int) = 107 from rfl] at hv
              clear hc
              have HN1 := Lib.hid (fun (wx : World) => num16_any c.color HC.out.color wx)
              have HN2 := Lib.hid (fun (wx : World) => num16_any c.key HC.out.key wx)
              have hc1 := itoaB_small HC.out.color
              have hc2 := itoaB_small HC.out.key
              have HTT := Lib.hid (show itoaB c.color ++ ⟨#[44, 32]⟩ ++ itoaB c.key = T by
                rw [HTB.out, show (⟨#[44, 32]⟩ : ByteArray) = ⟨([44, 32] : List UInt8).toArray⟩ from rfl]
                unfold itoaB
                rw [ba_app16, ba_app16]
                rfl)
              generalize itoaB c.color = C1 at *
              generalize itoaB c.key = C2 at *
              have k9 := fun d os => cell_regrown x9 d os
              have kA := fun d os => cell_regrown xA d os
              have hs1 : ¬ 9223372036854775807 < S2.size + C1.size := by omega
              have hs2 : ¬ 9223372036854775807 < S2.size + C1.size + 2 := by omega
              have hs3 : ¬ 9223372036854775807 < S2.size + C1.size + 2 + C2.size := by omega
              go_upto_region 26 with fail
              refine wp_region_quiet_below (by kernel_rfl) (by kernel_rfl) ?_
              repeat (quiet_step (first | (with_reducible exact Calls.regrown_of (HN1.out _)) | (with_reducible exact Calls.regrown_of (HN2.out _))))
              refine wpQuiet_nil ?_
              intro _ hw'
              obtain ⟨⟨dq, osq⟩, hw''⟩ := hw'
              subst hw''
              have hb2 := below_regrown wr dq osq
              clear k9 kA hs1 hs2 hs3 HN1 HN2
              generalize grow (redrawn wr dq) osq = w2 at *
              have HAQ := Lib.hid (show S2 ++ C1 ++ ⟨#[44, 32]⟩ ++ C2 = S2 ++ T by rw [← HTT.out, ByteArray.append_assoc, ByteArray.append_assoc, ByteArray.append_assoc])
              rw [HAQ.out]
              have HB2 := Lib.hid (HBX.out.trans (hb2.mono HBX.out.size))
              clear hb2 x1 x2 x3 x4 x5 x6 x7 x8 x9 xA hv
              go_wp2_with fail
              go_roundg g
              case measure => omega
              case rel => exact ⟨k + 1, S2 ++ T, by go_num, rfl, by omega, by omega, by rw [ByteArray.size_append]; omega, HAP, HB2⟩
            · have hv := HVAL.out 108 hc
              have HTB := Lib.hid (HLV.out 108 hc)
              simp only [show ((108 : UInt8).toNat : Int) = 108 from rfl] at hv
              clear hc
              have HNU := Lib.hid (list16_any A cap c.reqs wr HRW.out (by have := HL.out; omega) HC.out.reqs)
              rw [show (⟨(Lib.join (c.reqs.map Lib.itoa) [44, 32]).toArray⟩ : ByteArray) = letB c 108 from rfl, ← HTB.out] at HNU
              go_wp2_with fail
              refine HNU.out.mono ?_
              rintro e w2 ⟨rfl, hb2⟩
              clear HNU
              have HB2 := Lib.hid (HBX.out.trans (hb2.mono HBX.out.size))
              clear hb2 x1 x2 x3 x4 x5 x6 x7 x8 x9 xA hv
              go_wp2_with fail
              go_roundg g
              case measure => omega
              case rel => exact ⟨k + 1, S2 ++ T, by go_num, rfl, by omega, by omega, by rw [ByteArray.size_append]; omega, HAP, HB2⟩
        · obtain rfl : k = u.size := by omega
          have hdl : decide (u.size < u.size) = false := by simp
          have HTX := Lib.hid (show (⟨(textOfC c).toArray⟩ : ByteArray) = S ++ ⟨#[41]⟩ by
            unfold textOfC
            rw [HYES.out, if_pos rfl, ← rText_eq c HK.out, HS.out, ← HUL.out, show (⟨#[41]⟩ : ByteArray) = ⟨([41] : List UInt8).toArray⟩ from rfl, ba_app16, ← HLEN.out, List.take_length]
            rfl)
          have HERR := Lib.hid (show errOfC c = 0 by unfold errOfC; rw [HYES.out]; rfl)
          go_wp2_with fail
          go_ret2
          refine ⟨?_, HBBX.out⟩
          rw [HTX.out, HERR.out]
          rfl
end Go.Proofs.YtgphigpbgiceiaaDoor
