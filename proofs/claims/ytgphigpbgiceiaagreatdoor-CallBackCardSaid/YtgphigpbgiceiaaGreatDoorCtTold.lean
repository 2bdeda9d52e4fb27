/- The walk of call.Told. -/
import Derived.Test.YtgphigpbgiceiaaGreatDoorCtRow
import Derived.Test.YtgphigpbgiceiaaGreatDoorShelf
import Derived.Deep.Cut
import Derived.Test.YtgphigpbgiceiaaGreatDoorRegRel
namespace Go.Proofs.YtgphigpbgiceiaaGreatDoor
open Go.RowKit Go.Sort
set_option linter.unusedVariables false
set_option linter.unusedSimpArgs false

theorem intRow_of {w : World} {b : Nat} {l : List Int} (hb : b < w.heap.size) (h : ∀ k (hk : k < l.length), w.cell? ⟨b, k, none⟩ = some (.int .i64 l[k])) : IntRow w (some ⟨b, 0, none⟩) l := fun k hk => ⟨b, 0, rfl, hb, by rw [Nat.zero_add]; exact h k hk⟩
def In64 (n : Int) : Prop := -9223372036854775808 ≤ n ∧ n ≤ 9223372036854775807
theorem row16_one (between : ByteArray) (b : Nat) (v : Int) (w : World) (h : w.cell? ⟨b, 0, none⟩ = some (.int .i64 v)) (hb : between.size ≤ 100) (hv : In64 v) (hT : CtTabs w) :
    Calls Tryz.prog 20 #[.string between, .slice (some ⟨b, 0, none⟩) 1 1] w fun e w' => e = .returned (.string ⟨(Lib.itoa v).toArray⟩) ∧ Below w.heap.size w w' := by
  have hx := row16_any between (some ⟨b, 0, none⟩) 1 [v] w (intRow_of (block_lt_of_cell h) (fun k hk => by
    obtain rfl : k = 0 := by simpa using hk
    exact h)) hb (by simp) (fun n hn => by rw [List.mem_singleton.1 hn]; exact hv) hT.pow
  rw [show [v].map Lib.itoa = [Lib.itoa v] from rfl, Lib.join_one] at hx
  exact hx
theorem row16_two (between : ByteArray) (b : Nat) (v u : Int) (w : World) (h : w.cell? ⟨b, 0, none⟩ = some (.int .i64 v)) (h1 : w.cell? ⟨b, 1, none⟩ = some (.int .i64 u)) (hb : between.size ≤ 100) (hv : In64 v) (hu : In64 u) (hT : CtTabs w) :
    Calls Tryz.prog 20 #[.string between, .slice (some ⟨b, 0, none⟩) 2 2] w fun e w' => e = .returned (.string ⟨(Lib.itoa v ++ between.data.toList ++ Lib.itoa u).toArray⟩) ∧ Below w.heap.size w w' := by
  have hx := row16_any between (some ⟨b, 0, none⟩) 2 [v, u] w (intRow_of (block_lt_of_cell h) (fun k hk => by
    match k, hk with
    | 0, _ => exact h
    | 1, _ => exact h1
    | k + 2, hk => exact absurd hk (by simp))) hb (by simp) (fun n hn => by
      rcases List.mem_cons.1 hn with rfl | hn
      · exact hv
      · rw [List.mem_singleton.1 hn]
        exact hu) hT.pow
  have e : Lib.join ([v, u].map Lib.itoa) between.data.toList = Lib.itoa v ++ between.data.toList ++ Lib.itoa u := by
    rw [show [v, u].map Lib.itoa = [Lib.itoa v, Lib.itoa u] from rfl, Lib.join_cons]
    simp [Lib.joinTail]
  rw [e] at hx
  exact hx
theorem cell_new1 (w : World) (v : Value) (ty : TypeId) : (w.alloc (.cells #[v] ty)).cell? ⟨w.heap.size, 0, none⟩ = some v := by
  rw [World.cell?_alloc_new]
  rfl
theorem cell_drew {w : World} {a : Addr} {v : Value} (h : w.cell? a = some v) : w.drew.cell? a = some v := h
theorem cell_alloc {w : World} {a : Addr} {v : Value} (o : Obj) (h : w.cell? a = some v) : (w.alloc o).cell? a = some v := cell_later ((Below.refl _ _).alloc (Nat.le_refl _) _) h
theorem arr_ascii16 : ∀ (l : List Int), ∀ b ∈ arrText l, b.toNat < 128
  | [], b, h => by cases h
  | n :: l, b, h => by
    have e : arrText (n :: l) = 32 :: (Lib.itoa n ++ arrText l) := rfl
    rw [e] at h
    rcases List.mem_cons.1 h with rfl | h
    · decide
    · rcases List.mem_append.1 h with h | h
      · have := itoa_bytes n b h
        omega
      · exact arr_ascii16 l b h
theorem arr_len : ∀ (l : List Int), (∀ n ∈ l, In64 n) → (arrText l).length ≤ 22 * l.length
  | [], _ => by simp [arrText]
  | n :: l, h => by
    have e : arrText (n :: l) = 32 :: (Lib.itoa n ++ arrText l) := rfl
    have h1 := Lib.itoa_length_le n (h n (by simp)).1 (h n (by simp)).2
    have h2 := arr_len l (fun m hm => h m (by simp [hm]))
    rw [e]
    simp only [List.length_cons, List.length_append]
    omega
theorem join_len (l : List Int) (hl : l.length ≤ 100) (h : ∀ n ∈ l, In64 n) : (Lib.join (l.map Lib.itoa) [32]).length ≤ 4000 := by
  cases l with
  | nil => simp [Lib.join, List.intercalate]
  | cons n l =>
    have h1 := join_arr l n
    have h2 := arr_len (n :: l) h
    rw [← h1] at h2
    simp only [List.length_cons] at h2 hl
    omega
theorem join_ascii (l : List Int) : ∀ b ∈ Lib.join (l.map Lib.itoa) [32], b.toNat < 128 := by
  cases l with
  | nil => intro b h; simp [Lib.join, List.intercalate] at h
  | cons n l =>
    have h1 := join_arr l n
    intro b hb
    have hm : b ∈ arrText (n :: l) := by rw [← h1]; exact List.mem_cons_of_mem _ hb
    exact arr_ascii16 _ b hm
theorem itoa_flag (b : Bool) : Lib.itoa (if b = true then 1 else 0) = if b = true then [49] else [48] := by
  cases b
  · show Lib.itoa ((0 : Nat) : Int) = [48]
    rw [Lib.itoa_nonneg, Lib.decDigits, dif_pos (by decide)]
    rfl
  · show Lib.itoa ((1 : Nat) : Int) = [49]
    rw [Lib.itoa_nonneg, Lib.decDigits, dif_pos (by decide)]
    rfl
theorem cell_new2a (w : World) (v u : Value) (ty : TypeId) : (w.alloc (.cells #[v, u] ty)).cell? ⟨w.heap.size, 0, none⟩ = some v := by
  rw [World.cell?_alloc_new]
  rfl
theorem cell_new2b (w : World) (v u : Value) (ty : TypeId) : (w.alloc (.cells #[v, u] ty)).cell? ⟨w.heap.size, 1, none⟩ = some u := by
  rw [World.cell?_alloc_new]
  rfl
theorem asc_row : ∀ b ∈ ([114, 111, 119, 32] : List UInt8), b.toNat < 128 := by decide
theorem row16_new (between : ByteArray) (v : Int) (ty : TypeId) (w : World) (hb : between.size ≤ 100) (hv : In64 v) (hT : CtTabs w) :
    Calls Tryz.prog 20 #[.string between, .slice (some ⟨w.heap.size, 0, none⟩) 1 1] (w.alloc (.cells #[.int .i64 v] ty)) fun e w' => e = .returned (.string (itoaB v)) ∧ Below w.heap.size w w' := by
  have hab : Below w.heap.size w (w.alloc (.cells #[.int .i64 v] ty)) := (Below.refl _ _).alloc (Nat.le_refl _) _
  exact (row16_one between w.heap.size v _ (cell_new1 _ _ _) hb hv (hT.below hab)).mono fun e w' h => ⟨h.1, hab.trans (h.2.mono hab.size)⟩
theorem row16_new2 (between : ByteArray) (v u : Int) (ty : TypeId) (w : World) (hb : between.size ≤ 100) (hv : In64 v) (hu : In64 u) (hT : CtTabs w) :
    Calls Tryz.prog 20 #[.string between, .slice (some ⟨w.heap.size, 0, none⟩) 2 2] (w.alloc (.cells #[.int .i64 v, .int .i64 u] ty)) fun e w' => e = .returned (.string ⟨(Lib.itoa v ++ between.data.toList ++ Lib.itoa u).toArray⟩) ∧ Below w.heap.size w w' := by
  have hab : Below w.heap.size w (w.alloc (.cells #[.int .i64 v, .int .i64 u] ty)) := (Below.refl _ _).alloc (Nat.le_refl _) _
  exact (row16_two between w.heap.size v u _ (by rw [World.cell?_alloc_new]; rfl) (by rw [World.cell?_alloc_new]; rfl) hb hv hu (hT.below hab)).mono fun e w' h => ⟨h.1, hab.trans (h.2.mono hab.size)⟩
/-- A result, laid in a block. -/
structure ResAt (w : World) (b : Nat) (flag : Bool) (v p t r i c : Int) (s : Value) : Prop where
  g0 : w.cell? ⟨b, 0, none⟩ = some (.bool flag)
  g1 : w.cell? ⟨b, 1, none⟩ = some (.int .i64 v)
  g2 : w.cell? ⟨b, 2, none⟩ = some (.int .i64 p)
  g3 : w.cell? ⟨b, 3, none⟩ = some (.int .i64 t)
  g4 : w.cell? ⟨b, 4, none⟩ = some (.int .i64 r)
  g5 : w.cell? ⟨b, 5, none⟩ = some (.int .i64 i)
  g6 : w.cell? ⟨b, 6, none⟩ = some (.int .i64 c)
  g7 : w.cell? ⟨b, 7, none⟩ = some s
theorem ResAt.below {w w' : World} {b : Nat} {flag : Bool} {v p t r i c : Int} {s : Value} (h : ResAt w b flag v p t r i c s) (hb : Below w.heap.size w w') : ResAt w' b flag v p t r i c s :=
  ⟨cell_later hb h.g0, cell_later hb h.g1, cell_later hb h.g2, cell_later hb h.g3, cell_later hb h.g4, cell_later hb h.g5, cell_later hb h.g6, cell_later hb h.g7⟩
theorem ResAt.new {w : World} {flag : Bool} {v p t r i c : Int} {s : Value} {ty : TypeId} : ResAt (w.alloc (.cells #[.bool flag, .int .i64 v, .int .i64 p, .int .i64 t, .int .i64 r, .int .i64 i, .int .i64 c, s] ty)) w.heap.size flag v p t r i c s := by
  constructor <;> rw [World.cell?_alloc_new] <;> rfl
set_option maxHeartbeats 16000000 in
set_option maxRecDepth 100000 in
theorem told16_any (k : Int) (hk0 : 0 ≤ k) (hk1 : k ≤ 255) (flag : Bool) (v p t r i c : Int) (hv : In64 v) (hp : In64 p) (ht : In64 t) (hr : In64 r) (hi : In64 i) (hc : In64 c) (l : List Int) (A : Option Addr) (cap : Nat) (w : World) (hR : IntRow w A l) (hl : l.length ≤ 100) (hn : ∀ n ∈ l, In64 n) (hT : CtTabs w) :
    Calls Tryz.prog 16 #[.int .u8 k, .agg #[.bool flag, .int .i64 v, .int .i64 p, .int .i64 t, .int .i64 r, .int .i64 i, .int .i64 c, .slice A l.length cap]] w fun e w' => e = .returned (.string ⟨(toldF k flag v p t r i c l).toArray⟩) ∧ Below w.heap.size w w' := by
  have hb1 : Below w.heap.size w (w.alloc (.cells #[.bool flag, .int .i64 v, .int .i64 p, .int .i64 t, .int .i64 r, .int .i64 i, .int .i64 c, .slice A l.length cap] 45)) := (Below.refl _ _).alloc (Nat.le_refl _) _
  have hX1 : ResAt (w.alloc (.cells #[.bool flag, .int .i64 v, .int .i64 p, .int .i64 t, .int .i64 r, .int .i64 i, .int .i64 c, .slice A l.length cap] 45)) w.heap.size flag v p t r i c (.slice A l.length cap) := ResAt.new
  have HV := Lib.hid hv
  have HP := Lib.hid hp
  have HTG := Lib.hid ht
  have HRQ := Lib.hid hr
  have HI := Lib.hid hi
  have HCM := Lib.hid hc
  have HN := Lib.hid hn
  have HR := Lib.hid (hR.below hb1)
  have HT := Lib.hid (hT.below hb1)
  have HB := Lib.hid hb1
  have HX := Lib.hid hX1
  have hlv : (Lib.itoa v).length ≤ 21 := Lib.itoa_length_le v hv.1 hv.2
  have hlp : (Lib.itoa p).length ≤ 21 := Lib.itoa_length_le p hp.1 hp.2
  have hlt : (Lib.itoa t).length ≤ 21 := Lib.itoa_length_le t ht.1 ht.2
  have hlr : (Lib.itoa r).length ≤ 21 := Lib.itoa_length_le r hr.1 hr.2
  have hli : (Lib.itoa i).length ≤ 21 := Lib.itoa_length_le i hi.1 hi.2
  have hlc : (Lib.itoa c).length ≤ 21 := Lib.itoa_length_le c hc.1 hc.2
  clear hv hp ht hr hi hc hn hR hT hb1 hX1
  go_enter Tryz.func16, Tryz.ntmps16
  go_upto_region 2 with fail
  generalize hw1 : w.alloc (.cells #[.bool flag, .int .i64 v, .int .i64 p, .int .i64 t, .int .i64 r, .int .i64 i, .int .i64 c, .slice A l.length cap] 45) = w1 at *
  generalize hbx : w.heap.size = bx at *
  obtain ⟨fl, hfl⟩ : ∃ fl : Int, fl = if flag then 1 else 0 := ⟨_, rfl⟩
  have g0 := HX.out.g0
  go_upto_if 9 with fail
  go_cut [5] from 8 (fun s5 wx => s5 = .int .i64 fl ∧ wx = w1)
  case first =>
    cases flag
    all_goals
      go_wp2_with fail
      go_meet
      case rel => exact ⟨by rw [hfl]; rfl, rfl⟩
  case rest =>
    obtain ⟨rfl, rfl⟩ := hcut
    have hflr : In64 fl := by
      rw [hfl]
      unfold In64
      split <;> omega
    have HFL := Lib.hid hfl
    clear g0 hfl
    have g1 := HX.out.g1
    have g2 := HX.out.g2
    have g3 := HX.out.g3
    have HT0 := Lib.hid (fun (wx : World) (h : Below wc.heap.size wc wx) => HT.out.below h)
    have hbw : Below wc.heap.size wc wc := Below.refl _ _
    obtain ⟨sv, hsv⟩ : ∃ sv : ByteArray, (⟨(Lib.itoa v).toArray⟩ : ByteArray) = sv := ⟨_, rfl⟩
    obtain ⟨sp, hsp⟩ : ∃ sp : ByteArray, (⟨(Lib.itoa p).toArray⟩ : ByteArray) = sp := ⟨_, rfl⟩
    obtain ⟨st, hst⟩ : ∃ st : ByteArray, (⟨(Lib.itoa t).toArray⟩ : ByteArray) = st := ⟨_, rfl⟩
    have hlsv : sv.size ≤ 21 := by rw [← hsv]; exact hlv
    have hlsp : sp.size ≤ 21 := by rw [← hsp]; exact hlp
    have hlst : st.size ≤ 21 := by rw [← hst]; exact hlt
    have HC1 := Lib.hid (fun (b : Nat) (wx : World) (h : wx.cell? ⟨b, 0, none⟩ = some (.int .i64 v)) (hb : Below wc.heap.size wc wx) => hsv ▸ row16_one ⟨#[32]⟩ b v wx h (by decide) HV.out (HT0.out wx hb))
    have HC2 := Lib.hid (fun (b : Nat) (wx : World) (h : wx.cell? ⟨b, 0, none⟩ = some (.int .i64 p)) (hb : Below wc.heap.size wc wx) => hsp ▸ row16_one ⟨#[32]⟩ b p wx h (by decide) HP.out (HT0.out wx hb))
    have HC3 := Lib.hid (fun (b : Nat) (wx : World) (h : wx.cell? ⟨b, 0, none⟩ = some (.int .i64 t)) (hb : Below wc.heap.size wc wx) => hst ▸ row16_one ⟨#[32]⟩ b t wx h (by decide) HTG.out (HT0.out wx hb))
    obtain ⟨t1, ht1⟩ : ∃ t1 : ByteArray, (⟨#[118, 97, 108, 117, 101, 32]⟩ : ByteArray) ++ sv = t1 := ⟨_, rfl⟩
    obtain ⟨t2, ht2⟩ : ∃ t2 : ByteArray, t1 ++ (⟨#[32, 112, 101, 101, 114, 32]⟩ : ByteArray) = t2 := ⟨_, rfl⟩
    obtain ⟨t3, ht3⟩ : ∃ t3 : ByteArray, t2 ++ sp = t3 := ⟨_, rfl⟩
    obtain ⟨t4, ht4⟩ : ∃ t4 : ByteArray, t3 ++ (⟨#[32, 116, 97, 103, 32]⟩ : ByteArray) = t4 := ⟨_, rfl⟩
    obtain ⟨t5, ht5⟩ : ∃ t5 : ByteArray, t4 ++ st = t5 := ⟨_, rfl⟩
    have l1 : t1.size ≤ 40 := by rw [← ht1, ByteArray.size_append]; exact Nat.le_trans (Nat.add_le_add_left hlsv _) (by decide)
    have l2 : t2.size ≤ 60 := by rw [← ht2, ByteArray.size_append]; exact Nat.le_trans (Nat.add_le_add_right l1 _) (by decide)
    have l3 : t3.size ≤ 100 := by rw [← ht3, ByteArray.size_append]; omega
    have l4 : t4.size ≤ 120 := by rw [← ht4, ByteArray.size_append]; exact Nat.le_trans (Nat.add_le_add_right l3 _) (by decide)
    have l5 : t5.size ≤ 150 := by rw [← ht5, ByteArray.size_append]; omega
    have E1 : ∀ W, (Op.stringOp .add ⟨#[118, 97, 108, 117, 101, 32]⟩ sv).run Tryz.prog W = .ok (.string t1) W := fun W => by rw [run_string_add_sum _ _ _ (Nat.le_trans (Nat.add_le_add_left hlsv _) (by decide)), ht1]
    have E2 : ∀ W, (Op.stringOp .add t1 ⟨#[32, 112, 101, 101, 114, 32]⟩).run Tryz.prog W = .ok (.string t2) W := fun W => by rw [run_string_add_sum _ _ _ (Nat.le_trans (Nat.add_le_add_right l1 _) (by decide)), ht2]
    have E3 : ∀ W, (Op.stringOp .add t2 sp).run Tryz.prog W = .ok (.string t3) W := fun W => by rw [run_string_add_sum _ _ _ (by omega), ht3]
    have E4 : ∀ W, (Op.stringOp .add t3 ⟨#[32, 116, 97, 103, 32]⟩).run Tryz.prog W = .ok (.string t4) W := fun W => by rw [run_string_add_sum _ _ _ (Nat.le_trans (Nat.add_le_add_right l3 _) (by decide)), ht4]
    have E5 : ∀ W, (Op.stringOp .add t4 st).run Tryz.prog W = .ok (.string t5) W := fun W => by rw [run_string_add_sum _ _ _ (by omega), ht5]
    have HT5 := Lib.hid (show t5 = ⟨([118, 97, 108, 117, 101, 32] ++ Lib.itoa v ++ [32, 112, 101, 101, 114, 32] ++ Lib.itoa p ++ [32, 116, 97, 103, 32] ++ Lib.itoa t).toArray⟩ by
      rw [← ht5, ← ht4, ← ht3, ← ht2, ← ht1, ← hsv, ← hsp, ← hst]
      apply ByteArray.ext
      simp)
    have HSV := Lib.hid hsv
    clear ht1 ht2 ht3 ht4 ht5 hsv hsp hst l1 l2 l3 l4 hlsv hlsp hlst hlv hlp hlt
    go_upto_region 4 with fail
    go_cut [6] from 8 (fun s6 wx => s6 = .string t5 ∧ Below wc.heap.size wc wx)
    case first =>
      refine wp_region_rel (fun w' => Below wc.heap.size wc w') (goodBy [(10, .is (.pointer (some ⟨bx, 1, none⟩))), (11, .is (.int .i64 v)), (12, .row [v]), (13, .is (.string sv)), (14, .is (.string t1)), (15, .is (.string t2)), (16, .is (.pointer (some ⟨bx, 2, none⟩))), (17, .is (.int .i64 p)), (18, .row [p]), (19, .is (.string sp)), (20, .is (.string t3)), (21, .is (.string t4)), (22, .is (.pointer (some ⟨bx, 3, none⟩))), (23, .is (.int .i64 t)), (24, .row [t]), (25, .is (.string st)), (26, .is (.string t5)), (6, .is (.string t5))]) (by first | assumption | kernel_rfl) (by first | rfl | kernel_rfl) (Below.refl _ _).drew ?_ ?_
      · intro i o ho ρ wx hCx hout hcon hdep
        have x3 : ρ (.tmp 3) = .pointer (some ⟨bx, 0, none⟩) := hout 3 (by decide)
        have y1 := cell_later hCx g1
        have y2 := cell_later hCx g2
        have y3 := cell_later hCx g3
        have xc : ∀ c : Value, ρ (.const c) = c := fun c => hcon (.const c) (fun t h => by cases h)
        have xf : ∀ f : FuncId, ρ (.func f) = .func (.func f) #[] #[] := fun f => hcon (.func f) (fun t h => by cases h)
        match i, ho with
        | 0, ho =>
          simp only [List.getElem?_toArray, List.getElem?_cons_zero, List.getElem?_cons_succ, Option.some.injEq] at ho
          subst ho
          generalize hR : (fun (u : Value) (w' : World) => Below wc.heap.size wc w' ∧ _) = R
          clear hout hcon hdep
          go_simp
          subst hR
          exact ⟨hCx, fun s u h => h, fun d hd => (by obtain rfl : 10 = d := Option.some.inj hd; exact rfl)⟩
        | 1, ho =>
          simp only [List.getElem?_toArray, List.getElem?_cons_zero, List.getElem?_cons_succ, Option.some.injEq] at ho
          subst ho
          have d10 := hdep ⟨0, .data⟩ (by simp) rfl _ rfl 10 rfl
          change ρ (.tmp 10) = _ at d10
          generalize hR : (fun (u : Value) (w' : World) => Below wc.heap.size wc w' ∧ _) = R
          clear hout hcon hdep
          go_simp
          subst hR
          exact ⟨hCx, fun s u h => h, fun d hd => (by obtain rfl : 11 = d := Option.some.inj hd; exact rfl)⟩
        | 2, ho =>
          simp only [List.getElem?_toArray, List.getElem?_cons_zero, List.getElem?_cons_succ, Option.some.injEq] at ho
          subst ho
          have d11 := hdep ⟨1, .data⟩ (by simp) rfl _ rfl 11 rfl
          change ρ (.tmp 11) = _ at d11
          generalize hR : (fun (u : Value) (w' : World) => Below wc.heap.size wc w' ∧ _) = R
          clear hout hcon hdep
          go_simp
          subst hR
          refine ⟨hCx.alloc hCx.size _, goodBy_stay ((Below.refl _ _).alloc (Nat.le_refl _) _), fun d hd => ?_⟩
          obtain rfl : 12 = d := Option.some.inj hd
          refine ⟨wx.heap.size, rfl, by simp, fun k hk => ?_⟩
          obtain rfl : k = 0 := (by simpa using hk); exact cell_new1 _ _ _
        | 3, ho =>
          simp only [List.getElem?_toArray, List.getElem?_cons_zero, List.getElem?_cons_succ, Option.some.injEq] at ho
          subst ho
          have d12 := hdep ⟨2, .data⟩ (by simp) rfl _ rfl 12 rfl
          obtain ⟨b, d12, hb, hrow⟩ := d12
          generalize hR : (fun (u : Value) (w' : World) => Below wc.heap.size wc w' ∧ _) = R
          clear hout hcon hdep
          go_simp
          rw [stepOk_enter]
          refine (HC1.out b wx (hrow 0 (by simp)) hCx).mono ?_
          rintro e w2 ⟨rfl, hb2⟩
          subst hR
          exact ⟨_, rfl, hCx.trans (hb2.mono hCx.size), goodBy_stay hb2, fun d hd => (by obtain rfl : 13 = d := Option.some.inj hd; exact rfl)⟩
        | 4, ho =>
          simp only [List.getElem?_toArray, List.getElem?_cons_zero, List.getElem?_cons_succ, Option.some.injEq] at ho
          subst ho
          have d13 := hdep ⟨3, .data⟩ (by simp) rfl _ rfl 13 rfl
          change ρ (.tmp 13) = _ at d13
          generalize hR : (fun (u : Value) (w' : World) => Below wc.heap.size wc w' ∧ _) = R
          clear hout hcon hdep
          go_simp
          subst hR
          exact ⟨hCx, fun s u h => h, fun d hd => (by obtain rfl : 14 = d := Option.some.inj hd; exact rfl)⟩
        | 5, ho =>
          simp only [List.getElem?_toArray, List.getElem?_cons_zero, List.getElem?_cons_succ, Option.some.injEq] at ho
          subst ho
          have d14 := hdep ⟨4, .data⟩ (by simp) rfl _ rfl 14 rfl
          change ρ (.tmp 14) = _ at d14
          generalize hR : (fun (u : Value) (w' : World) => Below wc.heap.size wc w' ∧ _) = R
          clear hout hcon hdep
          go_simp
          subst hR
          exact ⟨hCx, fun s u h => h, fun d hd => (by obtain rfl : 15 = d := Option.some.inj hd; exact rfl)⟩
        | 6, ho =>
          simp only [List.getElem?_toArray, List.getElem?_cons_zero, List.getElem?_cons_succ, Option.some.injEq] at ho
          subst ho
          generalize hR : (fun (u : Value) (w' : World) => Below wc.heap.size wc w' ∧ _) = R
          clear hout hcon hdep
          go_simp
          subst hR
          exact ⟨hCx, fun s u h => h, fun d hd => (by obtain rfl : 16 = d := Option.some.inj hd; exact rfl)⟩
        | 7, ho =>
          simp only [List.getElem?_toArray, List.getElem?_cons_zero, List.getElem?_cons_succ, Option.some.injEq] at ho
          subst ho
          have d16 := hdep ⟨6, .data⟩ (by simp) rfl _ rfl 16 rfl
          change ρ (.tmp 16) = _ at d16
          generalize hR : (fun (u : Value) (w' : World) => Below wc.heap.size wc w' ∧ _) = R
          clear hout hcon hdep
          go_simp
          subst hR
          exact ⟨hCx, fun s u h => h, fun d hd => (by obtain rfl : 17 = d := Option.some.inj hd; exact rfl)⟩
        | 8, ho =>
          simp only [List.getElem?_toArray, List.getElem?_cons_zero, List.getElem?_cons_succ, Option.some.injEq] at ho
          subst ho
          have d17 := hdep ⟨7, .data⟩ (by simp) rfl _ rfl 17 rfl
          change ρ (.tmp 17) = _ at d17
          generalize hR : (fun (u : Value) (w' : World) => Below wc.heap.size wc w' ∧ _) = R
          clear hout hcon hdep
          go_simp
          subst hR
          refine ⟨hCx.alloc hCx.size _, goodBy_stay ((Below.refl _ _).alloc (Nat.le_refl _) _), fun d hd => ?_⟩
          obtain rfl : 18 = d := Option.some.inj hd
          refine ⟨wx.heap.size, rfl, by simp, fun k hk => ?_⟩
          obtain rfl : k = 0 := (by simpa using hk); exact cell_new1 _ _ _
        | 9, ho =>
          simp only [List.getElem?_toArray, List.getElem?_cons_zero, List.getElem?_cons_succ, Option.some.injEq] at ho
          subst ho
          have d18 := hdep ⟨8, .data⟩ (by simp) rfl _ rfl 18 rfl
          obtain ⟨b, d18, hb, hrow⟩ := d18
          generalize hR : (fun (u : Value) (w' : World) => Below wc.heap.size wc w' ∧ _) = R
          clear hout hcon hdep
          go_simp
          rw [stepOk_enter]
          refine (HC2.out b wx (hrow 0 (by simp)) hCx).mono ?_
          rintro e w2 ⟨rfl, hb2⟩
          subst hR
          exact ⟨_, rfl, hCx.trans (hb2.mono hCx.size), goodBy_stay hb2, fun d hd => (by obtain rfl : 19 = d := Option.some.inj hd; exact rfl)⟩
        | 10, ho =>
          simp only [List.getElem?_toArray, List.getElem?_cons_zero, List.getElem?_cons_succ, Option.some.injEq] at ho
          subst ho
          have d15 := hdep ⟨5, .data⟩ (by simp) rfl _ rfl 15 rfl
          change ρ (.tmp 15) = _ at d15
          have d19 := hdep ⟨9, .data⟩ (by simp) rfl _ rfl 19 rfl
          change ρ (.tmp 19) = _ at d19
          generalize hR : (fun (u : Value) (w' : World) => Below wc.heap.size wc w' ∧ _) = R
          clear hout hcon hdep
          go_simp
          subst hR
          exact ⟨hCx, fun s u h => h, fun d hd => (by obtain rfl : 20 = d := Option.some.inj hd; exact rfl)⟩
        | 11, ho =>
          simp only [List.getElem?_toArray, List.getElem?_cons_zero, List.getElem?_cons_succ, Option.some.injEq] at ho
          subst ho
          have d20 := hdep ⟨10, .data⟩ (by simp) rfl _ rfl 20 rfl
          change ρ (.tmp 20) = _ at d20
          generalize hR : (fun (u : Value) (w' : World) => Below wc.heap.size wc w' ∧ _) = R
          clear hout hcon hdep
          go_simp
          subst hR
          exact ⟨hCx, fun s u h => h, fun d hd => (by obtain rfl : 21 = d := Option.some.inj hd; exact rfl)⟩
        | 12, ho =>
          simp only [List.getElem?_toArray, List.getElem?_cons_zero, List.getElem?_cons_succ, Option.some.injEq] at ho
          subst ho
          generalize hR : (fun (u : Value) (w' : World) => Below wc.heap.size wc w' ∧ _) = R
          clear hout hcon hdep
          go_simp
          subst hR
          exact ⟨hCx, fun s u h => h, fun d hd => (by obtain rfl : 22 = d := Option.some.inj hd; exact rfl)⟩
        | 13, ho =>
          simp only [List.getElem?_toArray, List.getElem?_cons_zero, List.getElem?_cons_succ, Option.some.injEq] at ho
          subst ho
          have d22 := hdep ⟨12, .data⟩ (by simp) rfl _ rfl 22 rfl
          change ρ (.tmp 22) = _ at d22
          generalize hR : (fun (u : Value) (w' : World) => Below wc.heap.size wc w' ∧ _) = R
          clear hout hcon hdep
          go_simp
          subst hR
          exact ⟨hCx, fun s u h => h, fun d hd => (by obtain rfl : 23 = d := Option.some.inj hd; exact rfl)⟩
        | 14, ho =>
          simp only [List.getElem?_toArray, List.getElem?_cons_zero, List.getElem?_cons_succ, Option.some.injEq] at ho
          subst ho
          have d23 := hdep ⟨13, .data⟩ (by simp) rfl _ rfl 23 rfl
          change ρ (.tmp 23) = _ at d23
          generalize hR : (fun (u : Value) (w' : World) => Below wc.heap.size wc w' ∧ _) = R
          clear hout hcon hdep
          go_simp
          subst hR
          refine ⟨hCx.alloc hCx.size _, goodBy_stay ((Below.refl _ _).alloc (Nat.le_refl _) _), fun d hd => ?_⟩
          obtain rfl : 24 = d := Option.some.inj hd
          refine ⟨wx.heap.size, rfl, by simp, fun k hk => ?_⟩
          obtain rfl : k = 0 := (by simpa using hk); exact cell_new1 _ _ _
        | 15, ho =>
          simp only [List.getElem?_toArray, List.getElem?_cons_zero, List.getElem?_cons_succ, Option.some.injEq] at ho
          subst ho
          have d24 := hdep ⟨14, .data⟩ (by simp) rfl _ rfl 24 rfl
          obtain ⟨b, d24, hb, hrow⟩ := d24
          generalize hR : (fun (u : Value) (w' : World) => Below wc.heap.size wc w' ∧ _) = R
          clear hout hcon hdep
          go_simp
          rw [stepOk_enter]
          refine (HC3.out b wx (hrow 0 (by simp)) hCx).mono ?_
          rintro e w2 ⟨rfl, hb2⟩
          subst hR
          exact ⟨_, rfl, hCx.trans (hb2.mono hCx.size), goodBy_stay hb2, fun d hd => (by obtain rfl : 25 = d := Option.some.inj hd; exact rfl)⟩
        | 16, ho =>
          simp only [List.getElem?_toArray, List.getElem?_cons_zero, List.getElem?_cons_succ, Option.some.injEq] at ho
          subst ho
          have d21 := hdep ⟨11, .data⟩ (by simp) rfl _ rfl 21 rfl
          change ρ (.tmp 21) = _ at d21
          have d25 := hdep ⟨15, .data⟩ (by simp) rfl _ rfl 25 rfl
          change ρ (.tmp 25) = _ at d25
          generalize hR : (fun (u : Value) (w' : World) => Below wc.heap.size wc w' ∧ _) = R
          clear hout hcon hdep
          go_simp
          subst hR
          exact ⟨hCx, fun s u h => h, fun d hd => (by obtain rfl : 26 = d := Option.some.inj hd; exact rfl)⟩
        | 17, ho =>
          simp only [List.getElem?_toArray, List.getElem?_cons_zero, List.getElem?_cons_succ, Option.some.injEq] at ho
          subst ho
          have d26 := hdep ⟨16, .data⟩ (by simp) rfl _ rfl 26 rfl
          change ρ (.tmp 26) = _ at d26
          generalize hR : (fun (u : Value) (w' : World) => Below wc.heap.size wc w' ∧ _) = R
          clear hout hcon hdep
          go_simp
          subst hR
          exact ⟨hCx, fun s u h => h, fun d hd => (by obtain rfl : 6 = d := Option.some.inj hd; exact rfl)⟩
        | n + 18, ho => exact absurd ho (by simp)
      · intro us w9 hC9 hg
        have q9 : us 6 = .string t5 := hg 17 _ rfl 6 rfl
        generalize hds : dstsOf _ = ds
        obtain rfl : ds = [10, 11, 12, 13, 14, 15, 16, 17, 18, 19, 20, 21, 22, 23, 24, 25, 26, 6] := hds.symm.trans rfl
        simp only [List.foldl_cons, List.foldl_nil, List.setIfInBounds_toArray, List.set_cons_zero, List.set_cons_succ]
        rw [q9]
        clear hg q9
        go_wp2_with fail
        go_meet
        case rel => exact ⟨rfl, hC9⟩
    case rest =>
      obtain ⟨rfl, hbc⟩ := hcut
      rename World => wd
      have HBC := Lib.hid hbc
      have HX2 := Lib.hid (HX.out.below hbc)
      have HT2 := Lib.hid (HT.out.below hbc)
      have HR2 := Lib.hid (HR.out.below hbc)
      have HB2 := Lib.hid (show Below w.heap.size w wd from (hbx ▸ HB.out).trans (hbc.mono (hbx ▸ HB.out.size)))
      clear hbc hbw g1 g2 g3 HX HT HR HB HT0 HC1 HC2 HC3 E1 E2 E3 E4 E5
      have q7 := HX2.out.g7
      have HRW := Lib.hid (row16_any ⟨#[32]⟩ A cap l wd HR2.out (by decide) hl HN.out HT2.out.pow)
      obtain ⟨sj, hsj⟩ : ∃ sj : ByteArray, (⟨(Lib.join (l.map Lib.itoa) (⟨#[32]⟩ : ByteArray).data.toList).toArray⟩ : ByteArray) = sj := ⟨_, rfl⟩
      rw [hsj] at HRW
      have hlj : sj.size ≤ 4000 := by
        rw [← hsj]
        show (Lib.join (l.map Lib.itoa) [32]).length ≤ 4000
        exact join_len l hl HN.out
      have hsm : ∀ (s : ByteArray) (j : Nat) b, ((⟨#[114, 111, 119, 32]⟩ : ByteArray) ++ sj).data.toList[j]? = some b → b.toNat < 128 := fun s j b h => by
        have hm := List.mem_of_getElem? h
        rw [ByteArray.data_append, Array.toList_append] at hm
        rcases List.mem_append.1 hm with h1 | h1
        · exact asc_row b h1
        · rw [← hsj] at h1
          exact join_ascii l _ h1
      have HSM := Lib.hid (fun (wx : World) (h : CtTabs wx) => Tryz.strings_TrimSpace (⟨#[114, 111, 119, 32]⟩ ++ sj) wx (by rw [ByteArray.size_append]; exact Nat.le_trans (Nat.add_le_add_left hlj _) (by decide)) (fun j b hb => hsm sj j b hb) h.spaces)
      have HT7 := Lib.hid (show (⟨(Lib.trimSpace ((⟨#[114, 111, 119, 32]⟩ : ByteArray) ++ sj).data.toList).toArray⟩ : ByteArray) = ⟨([114, 111, 119] ++ arrText l).toArray⟩ by
        congr 2
        rw [← trim_row l, ← hsj]
        rfl)
      clear hsm hsj
      go_wp2_with fail
      refine HRW.out.mono ?_
      rintro e we ⟨rfl, hbe⟩
      have HX3 := Lib.hid (HX2.out.below hbe)
      have HT3 := Lib.hid (HT2.out.below hbe)
      have HB3 := Lib.hid (HB2.out.trans (hbe.mono HB2.out.size))
      clear hbe q7 HX2 HT2 HR2 HB2 HBC HRW
      go_wp2_with fail
      refine (HSM.out we HT3.out).mono ?_
      rintro e wf ⟨rfl, hwf⟩
      have hbf : Below we.heap.size we wf := by rw [hwf]; exact ⟨rfl, rfl, rfl, by rw [Lib.bytesWorld_size]; omega, fun j hj => Lib.bytesWorld_at_old we 5 _ j hj⟩
      have HX4 := Lib.hid (HX3.out.below hbf)
      have HT4 := Lib.hid (HT3.out.below hbf)
      have HB4 := Lib.hid (HB3.out.trans (hbf.mono HB3.out.size))
      rw [HT7.out]
      clear hbf hwf HX3 HT3 HB3 HSM HT7 hlj
      have l7 : (⟨([114, 111, 119] ++ arrText l).toArray⟩ : ByteArray).size ≤ 5000 := by
        show ([114, 111, 119] ++ arrText l).length ≤ 5000
        have := arr_len l HN.out
        simp only [List.length_append, List.length_cons, List.length_nil]
        omega
      generalize h7 : (⟨([114, 111, 119] ++ arrText l).toArray⟩ : ByteArray) = t7 at *
      have H7 := Lib.hid h7
      clear h7
      have HF := Lib.hid (fun (u : Int) (hu : In64 u) => row16_new ⟨#[32]⟩ u 2 wf (by decide) hu HT4.out)
      have q1 := HX4.out.g1
      have q2 := HX4.out.g2
      have q3 := HX4.out.g3
      have q4 := HX4.out.g4
      have q5 := HX4.out.g5
      have q6 := HX4.out.g6
      have hbw := HB4.out.size
      go_upto_region 6 with fail
      have hk : (k = 4 ∨ k = 5 ∨ k = 7) ∨ (k = 6 ∨ k = 8) ∨ k = 9 ∨ (k = 10 ∨ k = 11 ∨ k = 12) ∨ (k = 13 ∨ k = 14) ∨ (k = 16 ∨ k = 17 ∨ k = 18) ∨ k = 19 ∨ (k = 20 ∨ k = 21) ∨ (¬ (k = 4 ∨ k = 5 ∨ k = 7) ∧ ¬ (k = 6 ∨ k = 8) ∧ ¬ k = 9 ∧ ¬ (k = 10 ∨ k = 11 ∨ k = 12) ∧ ¬ (k = 13 ∨ k = 14) ∧ ¬ (k = 16 ∨ k = 17 ∨ k = 18) ∧ ¬ k = 19 ∧ ¬ (k = 20 ∨ k = 21)) := by omega
      rcases hk with hk | hk | hk | hk | hk | hk | hk | hk | hk
      · rcases hk with rfl | rfl | rfl
        all_goals
          go_wp2_with fail
          refine (HF.out r HRQ.out).mono ?_
          rintro e wg ⟨rfl, hbg⟩
          have hlr2 : (itoaB r).size ≤ 21 := hlr
          have HB5 := Lib.hid (HB4.out.trans (hbg.mono HB4.out.size))
          clear hbg
          go_wp2_with fail
          go_ret
          exact ⟨ret_str (by apply ByteArray.ext; simp [toldF, itoaB]), HB5.out⟩
      · rcases hk with rfl | rfl
        all_goals
          go_wp2_with fail
          go_ret
          exact ⟨ret_str (by rw [HT5.out]; apply ByteArray.ext; simp [toldF]), HB4.out⟩
      · subst hk
        go_wp2_with fail
        go_ret
        exact ⟨ret_str (by rw [HT5.out, ← H7.out]; apply ByteArray.ext; simp [toldF]), HB4.out⟩
      · have HF2 := Lib.hid (row16_new2 ⟨#[32, 105, 110, 100, 101, 120, 32]⟩ fl i 2 wf (by decide) hflr HI.out HT4.out)
        have HTX := Lib.hid (show Lib.itoa fl = if flag = true then [49] else [48] by
          rw [HFL.out]
          exact itoa_flag flag)
        have hlf : (Lib.itoa fl).length ≤ 21 := Lib.itoa_length_le fl hflr.1 hflr.2
        have hl2 : (⟨(Lib.itoa fl ++ (⟨#[32, 105, 110, 100, 101, 120, 32]⟩ : ByteArray).data.toList ++ Lib.itoa i).toArray⟩ : ByteArray).size ≤ 60 := by
          show (Lib.itoa fl ++ [32, 105, 110, 100, 101, 120, 32] ++ Lib.itoa i).length ≤ 60
          simp only [List.length_append, List.length_cons, List.length_nil]
          omega
        generalize h9 : (⟨(Lib.itoa fl ++ (⟨#[32, 105, 110, 100, 101, 120, 32]⟩ : ByteArray).data.toList ++ Lib.itoa i).toArray⟩ : ByteArray) = s9 at *
        have H9 := Lib.hid h9
        clear h9
        rcases hk with rfl | rfl | rfl
        all_goals
          go_wp2_with fail
          refine HF2.out.mono ?_
          rintro e wg ⟨rfl, hbg⟩
          have HB5 := Lib.hid (HB4.out.trans (hbg.mono HB4.out.size))
          clear hbg
          go_wp2_with fail
          go_ret
          exact ⟨ret_str (by rw [HT5.out, ← H9.out]; apply ByteArray.ext; simp [toldF, HTX.out]), HB5.out⟩
      · have HTX := Lib.hid (show Lib.itoa fl = if flag = true then [49] else [48] by
          rw [HFL.out]
          exact itoa_flag flag)
        have hlf : (Lib.itoa fl).length ≤ 21 := Lib.itoa_length_le fl hflr.1 hflr.2
        obtain ⟨sf, hsf⟩ : ∃ sf : ByteArray, (⟨(Lib.itoa fl).toArray⟩ : ByteArray) = sf := ⟨_, rfl⟩
        have hlsf : sf.size ≤ 21 := by rw [← hsf]; exact hlf
        obtain ⟨s2, hs2⟩ : ∃ s2 : ByteArray, (⟨(Lib.itoa p ++ (⟨#[32, 116, 97, 103, 32]⟩ : ByteArray).data.toList ++ Lib.itoa t).toArray⟩ : ByteArray) = s2 := ⟨_, rfl⟩
        have hls2 : s2.size ≤ 60 := by
          rw [← hs2]
          show (Lib.itoa p ++ [32, 116, 97, 103, 32] ++ Lib.itoa t).length ≤ 60
          have a1 := Lib.itoa_length_le p HP.out.1 HP.out.2
          have a2 := Lib.itoa_length_le t HTG.out.1 HTG.out.2
          simp only [List.length_append, List.length_cons, List.length_nil]
          omega
        have HC1 := Lib.hid (fun (b : Nat) (wx : World) (h : wx.cell? ⟨b, 0, none⟩ = some (.int .i64 fl)) (hb : Below wf.heap.size wf wx) => hsf ▸ row16_one ⟨#[32]⟩ b fl wx h (by decide) hflr (HT4.out.below hb))
        have HC2 := Lib.hid (fun (b : Nat) (wx : World) (h : wx.cell? ⟨b, 0, none⟩ = some (.int .i64 p)) (h1 : wx.cell? ⟨b, 1, none⟩ = some (.int .i64 t)) (hb : Below wf.heap.size wf wx) => hs2 ▸ row16_two ⟨#[32, 116, 97, 103, 32]⟩ b p t wx h h1 (by decide) HP.out HTG.out (HT4.out.below hb))
        obtain ⟨t1, ht1⟩ : ∃ t1 : ByteArray, (⟨#[102, 108, 97, 103, 32]⟩ : ByteArray) ++ sf = t1 := ⟨_, rfl⟩
        obtain ⟨t2, ht2⟩ : ∃ t2 : ByteArray, t1 ++ (⟨#[32, 112, 101, 101, 114, 32]⟩ : ByteArray) = t2 := ⟨_, rfl⟩
        obtain ⟨t3, ht3⟩ : ∃ t3 : ByteArray, t2 ++ s2 = t3 := ⟨_, rfl⟩
        have l1 : t1.size ≤ 40 := by rw [← ht1, ByteArray.size_append]; exact Nat.le_trans (Nat.add_le_add_left hlsf _) (by decide)
        have l2 : t2.size ≤ 60 := by rw [← ht2, ByteArray.size_append]; exact Nat.le_trans (Nat.add_le_add_right l1 _) (by decide)
        have E1 : ∀ W, (Op.stringOp .add ⟨#[102, 108, 97, 103, 32]⟩ sf).run Tryz.prog W = .ok (.string t1) W := fun W => by rw [run_string_add_sum _ _ _ (Nat.le_trans (Nat.add_le_add_left hlsf _) (by decide)), ht1]
        have E2 : ∀ W, (Op.stringOp .add t1 ⟨#[32, 112, 101, 101, 114, 32]⟩).run Tryz.prog W = .ok (.string t2) W := fun W => by rw [run_string_add_sum _ _ _ (Nat.le_trans (Nat.add_le_add_right l1 _) (by decide)), ht2]
        have E3 : ∀ W, (Op.stringOp .add t2 s2).run Tryz.prog W = .ok (.string t3) W := fun W => by rw [run_string_add_sum _ _ _ (by omega), ht3]
        have H9 := Lib.hid (show t3 = ⟨(toldF 13 flag v p t r i c l).toArray⟩ by
          rw [← ht3, ← ht2, ← ht1, ← hsf, ← hs2]
          apply ByteArray.ext
          simp [toldF, HTX.out])
        have H10 := Lib.hid (show toldF 14 flag v p t r i c l = toldF 13 flag v p t r i c l from rfl)
        clear ht1 ht2 ht3 hsf hs2 l1 l2 hlsf hls2 hlf
        rcases hk with rfl | rfl
        all_goals
          go_upto_region 22 with fail
          refine wp_region_rel (fun w' => Below wf.heap.size wf w') (goodBy [(68, .is (.int .i64 fl)), (69, .row [fl]), (70, .is (.string sf)), (71, .is (.string t1)), (72, .is (.string t2)), (73, .is (.pointer (some ⟨bx, 2, none⟩))), (74, .is (.int .i64 p)), (75, .is (.pointer (some ⟨bx, 3, none⟩))), (76, .is (.int .i64 t)), (77, .row [p, t]), (78, .is (.string s2)), (79, .is (.string t3)), (4, .is (.string t3))]) (by first | assumption | kernel_rfl) (by first | rfl | kernel_rfl) (Below.refl _ _).drew ?_ ?_
          · intro i o ho ρ wx hCx hout hcon hdep
            have x3 : ρ (.tmp 3) = .pointer (some ⟨bx, 0, none⟩) := hout 3 (by decide)
            have x5 : ρ (.tmp 5) = .int .i64 fl := hout 5 (by decide)
            have y2 := cell_later hCx q2
            have y3 := cell_later hCx q3
            have xc : ∀ c : Value, ρ (.const c) = c := fun c => hcon (.const c) (fun t h => by cases h)
            have xf : ∀ f : FuncId, ρ (.func f) = .func (.func f) #[] #[] := fun f => hcon (.func f) (fun t h => by cases h)
            match i, ho with
            | 0, ho =>
              simp only [List.getElem?_toArray, List.getElem?_cons_zero, List.getElem?_cons_succ, Option.some.injEq] at ho
              subst ho
              generalize hR : (fun (u : Value) (w' : World) => Below wf.heap.size wf w' ∧ _) = R
              clear hout hcon hdep
              go_simp
              subst hR
              exact ⟨hCx, fun s u h => h, fun d hd => (by obtain rfl : 68 = d := Option.some.inj hd; exact rfl)⟩
            | 1, ho =>
              simp only [List.getElem?_toArray, List.getElem?_cons_zero, List.getElem?_cons_succ, Option.some.injEq] at ho
              subst ho
              have d68 := hdep ⟨0, .data⟩ (by simp) rfl _ rfl 68 rfl
              change ρ (.tmp 68) = _ at d68
              generalize hR : (fun (u : Value) (w' : World) => Below wf.heap.size wf w' ∧ _) = R
              clear hout hcon hdep
              go_simp
              subst hR
              refine ⟨hCx.alloc hCx.size _, goodBy_stay ((Below.refl _ _).alloc (Nat.le_refl _) _), fun d hd => ?_⟩
              obtain rfl : 69 = d := Option.some.inj hd
              refine ⟨wx.heap.size, rfl, by simp, fun k hk => ?_⟩
              obtain rfl : k = 0 := (by simpa using hk); exact cell_new1 _ _ _
            | 2, ho =>
              simp only [List.getElem?_toArray, List.getElem?_cons_zero, List.getElem?_cons_succ, Option.some.injEq] at ho
              subst ho
              have d69 := hdep ⟨1, .data⟩ (by simp) rfl _ rfl 69 rfl
              obtain ⟨b, d69, hb, hrow⟩ := d69
              generalize hR : (fun (u : Value) (w' : World) => Below wf.heap.size wf w' ∧ _) = R
              clear hout hcon hdep
              go_simp
              rw [stepOk_enter]
              refine (HC1.out b wx (hrow 0 (by simp)) hCx).mono ?_
              rintro e w2 ⟨rfl, hb2⟩
              subst hR
              exact ⟨_, rfl, hCx.trans (hb2.mono hCx.size), goodBy_stay hb2, fun d hd => (by obtain rfl : 70 = d := Option.some.inj hd; exact rfl)⟩
            | 3, ho =>
              simp only [List.getElem?_toArray, List.getElem?_cons_zero, List.getElem?_cons_succ, Option.some.injEq] at ho
              subst ho
              have d70 := hdep ⟨2, .data⟩ (by simp) rfl _ rfl 70 rfl
              change ρ (.tmp 70) = _ at d70
              generalize hR : (fun (u : Value) (w' : World) => Below wf.heap.size wf w' ∧ _) = R
              clear hout hcon hdep
              go_simp
              subst hR
              exact ⟨hCx, fun s u h => h, fun d hd => (by obtain rfl : 71 = d := Option.some.inj hd; exact rfl)⟩
            | 4, ho =>
              simp only [List.getElem?_toArray, List.getElem?_cons_zero, List.getElem?_cons_succ, Option.some.injEq] at ho
              subst ho
              have d71 := hdep ⟨3, .data⟩ (by simp) rfl _ rfl 71 rfl
              change ρ (.tmp 71) = _ at d71
              generalize hR : (fun (u : Value) (w' : World) => Below wf.heap.size wf w' ∧ _) = R
              clear hout hcon hdep
              go_simp
              subst hR
              exact ⟨hCx, fun s u h => h, fun d hd => (by obtain rfl : 72 = d := Option.some.inj hd; exact rfl)⟩
            | 5, ho =>
              simp only [List.getElem?_toArray, List.getElem?_cons_zero, List.getElem?_cons_succ, Option.some.injEq] at ho
              subst ho
              generalize hR : (fun (u : Value) (w' : World) => Below wf.heap.size wf w' ∧ _) = R
              clear hout hcon hdep
              go_simp
              subst hR
              exact ⟨hCx, fun s u h => h, fun d hd => (by obtain rfl : 73 = d := Option.some.inj hd; exact rfl)⟩
            | 6, ho =>
              simp only [List.getElem?_toArray, List.getElem?_cons_zero, List.getElem?_cons_succ, Option.some.injEq] at ho
              subst ho
              have d73 := hdep ⟨5, .data⟩ (by simp) rfl _ rfl 73 rfl
              change ρ (.tmp 73) = _ at d73
              generalize hR : (fun (u : Value) (w' : World) => Below wf.heap.size wf w' ∧ _) = R
              clear hout hcon hdep
              go_simp
              subst hR
              exact ⟨hCx, fun s u h => h, fun d hd => (by obtain rfl : 74 = d := Option.some.inj hd; exact rfl)⟩
            | 7, ho =>
              simp only [List.getElem?_toArray, List.getElem?_cons_zero, List.getElem?_cons_succ, Option.some.injEq] at ho
              subst ho
              generalize hR : (fun (u : Value) (w' : World) => Below wf.heap.size wf w' ∧ _) = R
              clear hout hcon hdep
              go_simp
              subst hR
              exact ⟨hCx, fun s u h => h, fun d hd => (by obtain rfl : 75 = d := Option.some.inj hd; exact rfl)⟩
            | 8, ho =>
              simp only [List.getElem?_toArray, List.getElem?_cons_zero, List.getElem?_cons_succ, Option.some.injEq] at ho
              subst ho
              have d75 := hdep ⟨7, .data⟩ (by simp) rfl _ rfl 75 rfl
              change ρ (.tmp 75) = _ at d75
              generalize hR : (fun (u : Value) (w' : World) => Below wf.heap.size wf w' ∧ _) = R
              clear hout hcon hdep
              go_simp
              subst hR
              exact ⟨hCx, fun s u h => h, fun d hd => (by obtain rfl : 76 = d := Option.some.inj hd; exact rfl)⟩
            | 9, ho =>
              simp only [List.getElem?_toArray, List.getElem?_cons_zero, List.getElem?_cons_succ, Option.some.injEq] at ho
              subst ho
              have d74 := hdep ⟨6, .data⟩ (by simp) rfl _ rfl 74 rfl
              change ρ (.tmp 74) = _ at d74
              have d76 := hdep ⟨8, .data⟩ (by simp) rfl _ rfl 76 rfl
              change ρ (.tmp 76) = _ at d76
              generalize hR : (fun (u : Value) (w' : World) => Below wf.heap.size wf w' ∧ _) = R
              clear hout hcon hdep
              go_simp
              subst hR
              refine ⟨hCx.alloc hCx.size _, goodBy_stay ((Below.refl _ _).alloc (Nat.le_refl _) _), fun d hd => ?_⟩
              obtain rfl : 77 = d := Option.some.inj hd
              refine ⟨wx.heap.size, rfl, by simp, fun k hk => ?_⟩
              match k, hk with
              | 0, _ => exact cell_new2a _ _ _ _
              | 1, _ => exact cell_new2b _ _ _ _
              | k + 2, hk => exact absurd hk (by simp)
            | 10, ho =>
              simp only [List.getElem?_toArray, List.getElem?_cons_zero, List.getElem?_cons_succ, Option.some.injEq] at ho
              subst ho
              have d77 := hdep ⟨9, .data⟩ (by simp) rfl _ rfl 77 rfl
              obtain ⟨b, d77, hb, hrow⟩ := d77
              generalize hR : (fun (u : Value) (w' : World) => Below wf.heap.size wf w' ∧ _) = R
              clear hout hcon hdep
              go_simp
              rw [stepOk_enter]
              refine (HC2.out b wx (hrow 0 (by simp)) (hrow 1 (by simp)) hCx).mono ?_
              rintro e w2 ⟨rfl, hb2⟩
              subst hR
              exact ⟨_, rfl, hCx.trans (hb2.mono hCx.size), goodBy_stay hb2, fun d hd => (by obtain rfl : 78 = d := Option.some.inj hd; exact rfl)⟩
            | 11, ho =>
              simp only [List.getElem?_toArray, List.getElem?_cons_zero, List.getElem?_cons_succ, Option.some.injEq] at ho
              subst ho
              have d72 := hdep ⟨4, .data⟩ (by simp) rfl _ rfl 72 rfl
              change ρ (.tmp 72) = _ at d72
              have d78 := hdep ⟨10, .data⟩ (by simp) rfl _ rfl 78 rfl
              change ρ (.tmp 78) = _ at d78
              generalize hR : (fun (u : Value) (w' : World) => Below wf.heap.size wf w' ∧ _) = R
              clear hout hcon hdep
              go_simp
              subst hR
              exact ⟨hCx, fun s u h => h, fun d hd => (by obtain rfl : 79 = d := Option.some.inj hd; exact rfl)⟩
            | 12, ho =>
              simp only [List.getElem?_toArray, List.getElem?_cons_zero, List.getElem?_cons_succ, Option.some.injEq] at ho
              subst ho
              have d79 := hdep ⟨11, .data⟩ (by simp) rfl _ rfl 79 rfl
              change ρ (.tmp 79) = _ at d79
              generalize hR : (fun (u : Value) (w' : World) => Below wf.heap.size wf w' ∧ _) = R
              clear hout hcon hdep
              go_simp
              subst hR
              exact ⟨hCx, fun s u h => h, fun d hd => (by obtain rfl : 4 = d := Option.some.inj hd; exact rfl)⟩
            | n + 13, ho => exact absurd ho (by simp)
          · intro us w9 hC9 hg
            have q9 : us 4 = .string t3 := hg 12 _ rfl 4 rfl
            generalize hds : dstsOf _ = ds
            obtain rfl : ds = [68, 69, 70, 71, 72, 73, 74, 75, 76, 77, 78, 79, 4] := hds.symm.trans rfl
            simp only [List.foldl_cons, List.foldl_nil, List.setIfInBounds_toArray, List.set_cons_zero, List.set_cons_succ]
            rw [q9]
            clear hg q9
            have HB5 := Lib.hid (HB4.out.trans (hC9.mono HB4.out.size))
            clear hC9
            go_wp2_with fail
            go_ret
            exact ⟨ret_str (by first | exact H9.out | (rw [H10.out]; exact H9.out)), HB5.out⟩
      · rcases hk with rfl | rfl | rfl
        all_goals
          go_wp2_with fail
          refine (HF.out v HV.out).mono ?_
          rintro e wg ⟨rfl, hbg⟩
          have hlr2 : (itoaB v).size ≤ 21 := Lib.itoa_length_le v HV.out.1 HV.out.2
          have HB5 := Lib.hid (HB4.out.trans (hbg.mono HB4.out.size))
          clear hbg
          go_wp2_with fail
          go_ret
          exact ⟨ret_str (by apply ByteArray.ext; simp [toldF, itoaB]), HB5.out⟩
      · subst hk
        go_wp2_with fail
        go_ret
        exact ⟨ret_str (by rw [← H7.out]; apply ByteArray.ext; simp [toldF]), HB4.out⟩
      · rcases hk with rfl | rfl
        all_goals
          go_wp2_with fail
          refine (HF.out c HCM.out).mono ?_
          rintro e wg ⟨rfl, hbg⟩
          have hlr2 : (itoaB c).size ≤ 21 := hlc
          have HB5 := Lib.hid (HB4.out.trans (hbg.mono HB4.out.size))
          clear hbg
          go_wp2_with fail
          go_ret
          exact ⟨ret_str (by apply ByteArray.ext; simp [toldF, itoaB]), HB5.out⟩
      · obtain ⟨n1, n2, n3, n4, n5, n6, n7, n8⟩ := hk
        have HTO := Lib.hid (show toldF k flag v p t r i c l = [] by
          unfold toldF
          rw [if_neg n1, if_neg n2, if_neg n3, if_neg n4, if_neg n5, if_neg n6, if_neg n7, if_neg n8])
        have z : ∀ m : Int, k ≠ m → (k == m) = false := fun m hm => beq_eq_false_iff_ne.2 hm
        have z4 := z 4 (by omega)
        have z5 := z 5 (by omega)
        have z6 := z 6 (by omega)
        have z7 := z 7 (by omega)
        have z8 := z 8 (by omega)
        have z9 := z 9 (by omega)
        have z10 := z 10 (by omega)
        have z11 := z 11 (by omega)
        have z12 := z 12 (by omega)
        have z13 := z 13 (by omega)
        have z14 := z 14 (by omega)
        have z16 := z 16 (by omega)
        have z17 := z 17 (by omega)
        have z18 := z 18 (by omega)
        have z19 := z 19 (by omega)
        have z20 := z 20 (by omega)
        have z21 := z 21 (by omega)
        clear z n1 n2 n3 n4 n5 n6 n7 n8
        go_wp2_with fail
        go_ret
        exact ⟨ret_str (by rw [HTO.out]), HB4.out⟩
end Go.Proofs.YtgphigpbgiceiaaGreatDoor
