/- The walk of dispatcherref01.Scan. -/
import Derived.Test.YtjfoinikdifgmaaDoorRefScan3
import Derived.Test.YtjfoinikdifgmaaDoorScanA
import Derived.Deep.Cut
namespace Go.Proofs.YtjfoinikdifgmaaDoor
open Go.RowKit
set_option linter.unusedVariables false

def refF : Nat → List UInt8 → Int → Int → List Tok → ScanRes
  | 0, _, _, _, acc => (acc, 0, 0, 0)
  | _ + 1, [], _, _, acc => (acc, 0, 0, 0)
  | f + 1, c :: r, a, b, acc =>
    if c.toNat = 10 then refF f r (a + 1) 1 acc
    else if c.toNat = 32 ∨ c.toNat = 9 ∨ c.toNat = 13 then refF f r a (b + 1) acc
    else if c.toNat = 35 then refF f ((c :: r).drop (lead notNl (c :: r))) a (b + lead notNl (c :: r)) acc
    else if (ofTok ((c :: r).take (endLen (c :: r)))).kind = 0 then ([], a, b, 10)
    else refF f ((c :: r).drop (endLen (c :: r))) a (b + endLen (c :: r)) (acc ++ [{ ofTok ((c :: r).take (endLen (c :: r))) with line := a, col := b }])
def refOf (l : List UInt8) : ScanRes := if 20000 < l.length then ([], 0, 0, 3) else refF (l.length + 1) l 1 1 []
def RefPost (l : List UInt8) (w : World) (e : Ending) (w' : World) : Prop :=
  (∃ v, e = .returned (.tuple #[v, .int .i64 (refOf l).2.1, .int .i64 (refOf l).2.2.1, .int .i64 (refOf l).2.2.2]) ∧ w'.ownsRow w.heap.size 36 5 v (refOf l).1.length (tokCells (refOf l).1)) ∧ Below w.heap.size w w'

theorem lead_in {p : Int → Bool} : ∀ {l : List UInt8} {k : Nat} (hk : k < l.length), k < lead p l → p ((l[k].toNat : Nat) : Int) = true
  | c :: r, 0, hk, h => by
    cases hc : p (c.toNat : Int) with
    | true => exact hc
    | false => rw [lead_cons_false hc] at h; omega
  | c :: r, k + 1, hk, h => by
    cases hc : p (c.toNat : Int) with
    | true =>
      rw [lead_cons_true hc] at h
      have := lead_in (p := p) (l := r) (k := k) (by simpa using hk) (by omega)
      simpa using this
    | false => rw [lead_cons_false hc] at h; omega
theorem lead_out {p : Int → Bool} : ∀ {l : List UInt8} (hk : lead p l < l.length), p ((l[lead p l].toNat : Nat) : Int) = false
  | c :: r, hk => by
    cases hc : p (c.toNat : Int) with
    | true =>
      simp only [lead_cons_true hc] at hk ⊢
      have := lead_out (p := p) (l := r) (by simpa using hk)
      simpa using this
    | false => simp only [lead_cons_false hc] at hk ⊢; simpa using hc

theorem endLen_bd {m : List UInt8} (h : m ≠ []) : 0 < endLen m ∧ endLen m ≤ m.length := by
  obtain ⟨c, r, rfl⟩ := List.exists_cons_of_ne_nil h
  have h1 := lead_le isNamed (c :: r)
  have h2 := lead_le isDigit (c :: r)
  unfold endLen
  split
  · rename_i hl
    have hc : isNamed (c.toNat : Int) = true := by
      unfold headLetter at hl
      simp only [List.head?_cons, Option.any_some] at hl
      unfold isNamed; rw [hl]; rfl
    rw [lead_cons_true hc] at h1 ⊢
    exact ⟨by omega, h1⟩
  · split
    · rename_i hd
      simp only [List.head?_cons, Option.any_some] at hd
      rw [lead_cons_true hd] at h2 ⊢
      exact ⟨by omega, h2⟩
    · split
      · omega
      · simp

set_option maxHeartbeats 4000000 in
set_option maxRecDepth 100000 in
theorem ref_any (A : Option Addr) (c : Nat) (l : List UInt8) (w : World) (hR : ByteRow w A l) (hl : l.length ≤ 9223372036854775807) (hcap : l.length ≤ c) :
    Calls Tryd.prog 20 #[.slice A l.length c] w (RefPost l w) := by
  by_cases hlong : 20000 < l.length
  · have hsc : refOf l = ([], 0, 0, 3) := by unfold refOf; rw [if_pos hlong]
    have HS := Lib.hid hsc
    clear hsc hR
    go_enter Tryd.func20, Tryd.ntmps20
    go_wp2
    refine bodyPost_ret (results_tmp4 rfl _ _ _) rfl ?_
    refine ⟨⟨.slice none 0 0, ?_, ?_⟩, Below.refl _ _⟩
    · rw [HS.out]; rfl
    · rw [HS.out]; exact own_none _ _ _ _
  · have hsc : refOf l = refF (l.length + 1) l 1 1 [] := by unfold refOf; rw [if_neg hlong]
    have HS := Lib.hid hsc
    have HR := Lib.hid hR
    clear hsc hR
    go_enter Tryd.func20, Tryd.ntmps20
    go_wp2
    go_loopg [6, 7, 8, 9] (l.length + 1) (fun g v i x y wx => ∃ (at_ : Nat) (a b : Int) (acc : List Tok), i = .int .i64 at_ ∧ x = .int .i64 a ∧ y = .int .i64 b ∧ at_ ≤ l.length ∧ wx.ownsRow w.heap.size 36 5 v acc.length (tokCells acc) ∧ Below w.heap.size w wx ∧ l.length - at_ < g ∧ Hid (refF g (l.drop at_) a b acc = refOf l) ∧ 1 ≤ a ∧ a ≤ at_ + 1 ∧ 1 ≤ b ∧ b ≤ at_ + 1 ∧ acc.length ≤ at_)
    case atStart => exact ⟨0, 1, 1, [], rfl, rfl, rfl, by omega, own_none _ _ _ _, Below.refl _ _, by omega, HS.out.symm, by omega, by omega, by omega, by omega, by simp⟩
    case round =>
      obtain ⟨at_, a, b, acc, rfl, rfl, rfl, hat, hown, hbw, hrg, hsf, ha1, ha2, hb1, hb2, hcnt⟩ := hrel
      obtain ⟨g, rfl⟩ : ∃ g, gk = g + 1 := ⟨gk - 1, by omega⟩
      by_cases hlt : at_ < l.length
      · obtain ⟨b0, o, rfl, hblt, hcell⟩ := HR.out at_ hlt
        have hcell := cell_later hbw hcell
        have hdrop : l.drop at_ = l[at_] :: l.drop (at_ + 1) := List.drop_eq_getElem_cons hlt
        have h255 : ((l[at_].toNat : Nat) : Int) < 256 := by have := UInt8.toNat_lt l[at_]; omega
        have h0 : 0 ≤ ((l[at_].toNat : Nat) : Int) := by omega
        have hunf := hsf.out
        rw [hdrop, refF] at hunf
        rw [← hdrop] at hunf
        have n10 : l[at_].toNat = 10 ↔ ((l[at_].toNat : Nat) : Int) = 10 := by omega
        have n32 : l[at_].toNat = 32 ↔ ((l[at_].toNat : Nat) : Int) = 32 := by omega
        have n9 : l[at_].toNat = 9 ↔ ((l[at_].toNat : Nat) : Int) = 9 := by omega
        have n13 : l[at_].toNat = 13 ↔ ((l[at_].toNat : Nat) : Int) = 13 := by omega
        have n35 : l[at_].toNat = 35 ↔ ((l[at_].toNat : Nat) : Int) = 35 := by omega
        simp only [n10, n32, n9, n13, n35] at hunf
        have HU := Lib.hid hunf
        have HD := Lib.hid hdrop
        clear hunf hdrop n10 n32 n9 n13 n35 hsf
        have hnx : (l.drop at_).length = l.length - at_ := List.length_drop
        by_cases h10 : ((l[at_].toNat : Nat) : Int) = 10
        · have hu := HU.out
          rw [if_pos h10] at hu
          have HU2 := Lib.hid hu
          have t10 : (((l[at_].toNat : Nat) : Int) == 10) = true := by simpa using h10
          clear hu h10 HU HD
          generalize ((l[at_].toNat : Nat) : Int) = ch at *
          go_wp2_with fail
          go_roundg g
          case measure => omega
          case rel => exact ⟨at_ + 1, a + 1, 1, acc, by go_num, rfl, rfl, by omega, hown, hbw, by omega, HU2, by omega, by omega, by omega, by omega, by omega⟩
        · by_cases hbl : ((l[at_].toNat : Nat) : Int) = 32 ∨ ((l[at_].toNat : Nat) : Int) = 9 ∨ ((l[at_].toNat : Nat) : Int) = 13
          · have hu := HU.out
            rw [if_neg h10, if_pos hbl] at hu
            have HU2 := Lib.hid hu
            have t10 : (((l[at_].toNat : Nat) : Int) == 10) = false := by simpa using h10
            clear hu h10 HU HD
            generalize ((l[at_].toNat : Nat) : Int) = ch at *
            rcases hbl with h | h | h
            · have t32 : (ch == 32) = true := by simpa using h
              clear h
              go_wp2_with fail
              go_roundg g
              case measure => omega
              case rel => exact ⟨at_ + 1, a, b + 1, acc, by go_num, rfl, rfl, by omega, hown, hbw, by omega, HU2, by omega, by omega, by omega, by omega, by omega⟩
            · have t32 : (ch == 32) = false := by simp [h]
              have t9 : (ch == 9) = true := by simpa using h
              clear h
              go_wp2_with fail
              go_roundg g
              case measure => omega
              case rel => exact ⟨at_ + 1, a, b + 1, acc, by go_num, rfl, rfl, by omega, hown, hbw, by omega, HU2, by omega, by omega, by omega, by omega, by omega⟩
            · have t32 : (ch == 32) = false := by simp [h]
              have t9 : (ch == 9) = false := by simp [h]
              have t13 : (ch == 13) = true := by simpa using h
              clear h
              go_wp2_with fail
              go_roundg g
              case measure => omega
              case rel => exact ⟨at_ + 1, a, b + 1, acc, by go_num, rfl, rfl, by omega, hown, hbw, by omega, HU2, by omega, by omega, by omega, by omega, by omega⟩
          · have t10 : (((l[at_].toNat : Nat) : Int) == 10) = false := by simpa using h10
            have t32 : (((l[at_].toNat : Nat) : Int) == 32) = false := by simp; omega
            have t9 : (((l[at_].toNat : Nat) : Int) == 9) = false := by simp; omega
            have t13 : (((l[at_].toNat : Nat) : Int) == 13) = false := by simp; omega
            by_cases h35 : ((l[at_].toNat : Nat) : Int) = 35
            · have hu := HU.out
              rw [if_neg h10, if_neg hbl, if_pos h35] at hu
              have t35 : (((l[at_].toNat : Nat) : Int) == 35) = true := by simpa using h35
              have hn1 : lead notNl (l.drop at_) ≤ l.length - at_ := by rw [← hnx]; exact lead_le _ _
              have hn0 : 0 < lead notNl (l.drop at_) := by
                rw [HD.out, lead_cons_true (by unfold notNl; rw [h35]; rfl)]
                omega
              have hin : ∀ j (hj : j < l.length), at_ ≤ j → j < at_ + lead notNl (l.drop at_) → (((l[j].toNat : Nat) : Int) != 10) = true := fun j hj h1 h2 => by
                have := lead_in (p := notNl) (l := l.drop at_) (k := j - at_) (by rw [hnx]; omega) (by omega)
                rw [List.getElem_drop] at this
                have e : at_ + (j - at_) = j := by omega
                simpa [e, notNl] using this
              have hout : ∀ (hj : at_ + lead notNl (l.drop at_) < l.length), (((l[at_ + lead notNl (l.drop at_)].toNat : Nat) : Int) != 10) = false := fun hj => by
                have := lead_out (p := notNl) (l := l.drop at_) (by rw [hnx]; omega)
                rw [List.getElem_drop] at this
                simpa [notNl] using this
              rw [List.drop_drop] at hu
              have HIN := Lib.hid hin
              have HOUT := Lib.hid hout
              have HU2 := Lib.hid hu
              clear hu h10 hbl HU HD h35 hin hout hnx
              generalize lead notNl (l.drop at_) = n at *
              generalize ((l[at_].toNat : Nat) : Int) = ch at *
              go_wp2_with fail
              go_loopg [7, 9] (n + 1) (fun g2 i y wy => ∃ (k : Nat) (z : Int), i = .int .i64 k ∧ y = .int .i64 z ∧ at_ ≤ k ∧ k ≤ at_ + n ∧ Hid (z = b + (k - at_ : Nat)) ∧ 1 ≤ z ∧ z ≤ k + 1 ∧ at_ + n - k < g2 ∧ wy = wr)
              case atStart => exact ⟨at_, b, rfl, rfl, by omega, by omega, by unfold Hid; simp, by omega, by omega, by omega, rfl⟩
              case round =>
                obtain ⟨k, z, rfl, rfl, hk1, hk2, hz, hz1, hz2, hg2, rfl⟩ := hrel
                obtain ⟨g2, rfl⟩ : ∃ x, gk = x + 1 := ⟨gk - 1, by omega⟩
                by_cases hkn : k < at_ + n
                · have hkl : k < l.length := by omega
                  have tk := HIN.out k hkl hk1 hkn
                  obtain ⟨b1, o1, he, hb1', hck⟩ := HR.out k hkl
                  cases he
                  have hck := cell_later hbw hck
                  clear hcell
                  generalize ((l[k].toNat : Nat) : Int) = ck at *
                  go_wp2_with fail
                  go_roundg g2
                  case measure => omega
                  case rel => exact ⟨k + 1, z + 1, by go_num, rfl, by omega, by omega, by have := hz.out; unfold Hid; omega, by omega, by omega, by omega, rfl⟩
                · obtain rfl : k = at_ + n := by omega
                  have e : z = b + n := by have := hz.out; omega
                  subst e
                  by_cases hkl : at_ + n < l.length
                  · have tk := HOUT.out hkl
                    obtain ⟨b1, o1, he, hb1', hck⟩ := HR.out _ hkl
                    cases he
                    have hck := cell_later hbw hck
                    clear hcell hz
                    generalize ((l[at_ + n].toNat : Nat) : Int) = ck at *
                    go_wp2_with fail
                    go_roundg g
                    case measure => omega
                    case rel => exact ⟨at_ + n, a, b + n, acc, rfl, rfl, rfl, by omega, hown, hbw, by omega, HU2, by omega, by omega, by omega, by omega, by omega⟩
                  · have hkn' : at_ + n = l.length := by omega
                    clear hcell hz
                    go_wp2_with fail
                    go_roundg g
                    case measure => omega
                    case rel => exact ⟨at_ + n, a, b + n, acc, rfl, rfl, rfl, by omega, hown, hbw, by omega, HU2, by omega, by omega, by omega, by omega, by omega⟩
            · have t35 : (((l[at_].toNat : Nat) : Int) == 35) = false := by simp; omega
              have hu := HU.out
              rw [if_neg h10, if_neg hbl, if_neg h35] at hu
              have hen := endLen_bd (m := l.drop at_) (by intro h0; rw [HD.out] at h0; exact absurd h0 (List.cons_ne_nil _ _))
              rw [hnx] at hen
              have hend : Calls Tryd.prog 35 #[.slice (some ⟨b0, o, none⟩) l.length c, .int .i64 at_] wr fun e w' => e = .returned (.int .i64 ((at_ + endLen (l.drop at_) : Nat) : Int)) ∧ w' = wr :=
                end_any b0 o at_ c l wr (fun k hk => by
                  obtain ⟨b1, o1, he, hb1', hck⟩ := HR.out k hk
                  cases he
                  exact cell_later hbw hck) (by omega) hcap hlt
              have hcv : (convert 27 9 (.slice (some ⟨b0, o + at_, none⟩) (endLen (l.drop at_)) (c - at_))).run Tryd.prog wr = .ok (.string (bytesOf ((l.drop at_).take (endLen (l.drop at_))))) wr := by
                have := convert_row (A := some ⟨b0, o + at_, none⟩) (l := (l.drop at_).take (endLen (l.drop at_))) (w := wr) (c - at_) (fun k hk => by
                  have hk' : k < endLen (l.drop at_) ∧ at_ + k < l.length := by simp at hk; omega
                  obtain ⟨b1, o1, he, hb1', hck⟩ := HR.out (at_ + k) hk'.2
                  cases he
                  refine ⟨b0, o + at_, rfl, Nat.lt_of_lt_of_le hblt hbw.size, ?_⟩
                  have := cell_later hbw hck
                  rw [List.getElem_take, List.getElem_drop, Nat.add_assoc]
                  exact this)
                have e : ((l.drop at_).take (endLen (l.drop at_))).length = endLen (l.drop at_) := by rw [List.length_take, hnx]; omega
                rw [e] at this
                exact this
              have hof := fun w => of_any (bytesOf ((l.drop at_).take (endLen (l.drop at_)))) w (by rw [bytesOf_size, List.length_take, hnx]; omega)
              rw [bytesOf_data] at hof
              rw [List.drop_drop] at hu
              clear h10 hbl h35 HU HD hnx
              have hen1 := hen.1
              have hen2 := hen.2
              clear hen
              generalize hs : bytesOf ((l.drop at_).take (endLen (l.drop at_))) = s at *
              generalize ofTok ((l.drop at_).take (endLen (l.drop at_))) = t at *
              generalize endLen (l.drop at_) = n at *
              generalize ((l[at_].toNat : Nat) : Int) = ch at *
              clear hs
              have HU2 := Lib.hid hu
              have HEND := Lib.hid hend
              have HOF := Lib.hid hof
              clear hu hend hof
              go_wp2_with fail
              refine HEND.out.mono ?_
              rintro e wr ⟨rfl, rfl⟩
              go_wp2_with fail
              refine (HOF.out _).mono ?_
              rintro e w2 ⟨rfl, hb⟩
              have hown2 := own_below hown hb
              have hbw2 := hbw.trans (hb.mono hbw.size)
              clear hb hown hbw hcell hcv
              have hrest : ∀ k (hk : k < l.length), True := fun _ _ => trivial
              by_cases hkind : t.kind = 0
              · have hu := HU2.out
                rw [if_pos hkind] at hu
                have HRES := Lib.hid hu.symm
                have hkb : (t.kind == 0) = true := by simp [hkind]
                clear hkind hu hrest
                go_wp2_with fail
                refine bodyPost_ret (results_tmp4 rfl _ _ _) rfl ?_
                refine ⟨⟨.slice none 0 0, ?_, ?_⟩, hbw2.alloc hbw2.size _⟩
                · rw [HRES.out]; rfl
                · rw [HRES.out]; exact own_none _ _ _ _
              · have hu := HU2.out
                rw [if_neg hkind] at hu
                have HUNF := Lib.hid hu
                have hkb : (t.kind == 0) = false := by simp [hkind]
                clear hkind hu hrest
                go_upto_region 13 with fail
                have hown3 := hown2.alloc (Obj.cells #[Value.int IntKind.u8 t.kind, Value.string t.text, Value.int IntKind.i64 t.num, Value.int IntKind.i64 a, Value.int IntKind.i64 b] 36)
                have hbw3 := hbw2.alloc hbw2.size (Obj.cells #[Value.int IntKind.u8 t.kind, Value.string t.text, Value.int IntKind.i64 t.num, Value.int IntKind.i64 a, Value.int IntKind.i64 b] 36)
                have ht3 := TokBlk.new w2 { t with line := a, col := b }
                simp only at ht3
                generalize w2.heap.size = B at *
                generalize w2.alloc (Obj.cells #[Value.int IntKind.u8 t.kind, Value.string t.text, Value.int IntKind.i64 t.num, Value.int IntKind.i64 a, Value.int IntKind.i64 b] 36) = w4 at *
                clear hown2 hbw2
                have d0 := ht3.c0
                have d1 := ht3.c1
                have d2 := ht3.c2
                have d3 := ht3.c3
                have d4 := ht3.c4
                simp only at d0 d1 d2 d3 d4
                obtain ⟨i0, hi, hz0, hz1, hz2⟩ := info_parts Tryd.infoTok
                have hbase := hbw3.size
                go_wp2_with (at_builtin; refine wpList_append_own _ rfl _ _ 28 rfl w.heap.size 36 i0 _ 5 48 Tryd.underlying28 hi hz0 hz1 hz2 rfl (by decide) _ _ _ rfl (hown3.alloc _) ⟨w4.heap.size, 0, none⟩ 1 1 (Tok.cells { t with line := a, col := b }) rfl rfl ?c1 ?c2 ?c3 ?c4 ?c5 ?_)
                case c1 =>
                  intro j u hj
                  have hadd : (⟨w4.heap.size, 0, none⟩ : Addr).add j = ⟨w4.heap.size, j, none⟩ := by
                    unfold Addr.add
                    split
                    · rename_i h; subst h; rfl
                    · simp
                  rw [hadd, World.cell?_alloc_new]
                  have e : (#[Value.int IntKind.u8 t.kind, Value.string t.text, Value.int IntKind.i64 t.num, Value.int IntKind.i64 a, Value.int IntKind.i64 b] : Array Value) = (Tok.cells { t with line := a, col := b }).toArray := rfl
                  rw [e, List.getElem?_toArray]
                  exact hj
                case c2 =>
                  intro u hu
                  simp [Tok.cells] at hu
                  rcases hu with rfl | rfl | rfl | rfl | rfl <;> rfl
                case c3 => unfold maxLen; omega
                case c4 => omega
                case c5 => simp; omega
                intro v' w5 hown5 hgrow _
                have hbw5 : Below w.heap.size w w5 := (hbw3.alloc hbw3.size _).grown hgrow (by simp; omega) (fun k hk => own_low5 hown3 k hk)
                clear hi hz0 hz1 hz2 d0 d1 d2 d3 d4 ht3 hown3 hgrow hbw3 hbase
                go_wp2_with fail
                go_roundg g
                case measure => omega
                case rel =>
                  refine ⟨at_ + n, a, b + n, acc ++ [{ t with line := a, col := b }], by go_num, rfl, by go_num, by omega, ?_, hbw5, by omega, HUNF, by omega, by omega, by omega, by omega, by simp; omega⟩
                  have e2 : tokCells (acc ++ [{ t with line := a, col := b }]) = tokCells acc ++ Tok.cells { t with line := a, col := b } := by simp [tokCells]
                  rw [e2]
                  simpa using hown5
      · obtain rfl : at_ = l.length := by omega
        have hres : refOf l = (acc, 0, 0, 0) := by rw [← hsf.out, List.drop_length, refF]
        have HRES := Lib.hid hres
        clear hres
        go_wp2_with fail
        refine bodyPost_ret (results_tmp4 rfl _ _ _) rfl ?_
        refine ⟨⟨u6, ?_, ?_⟩, hbw⟩
        · rw [HRES.out]; rfl
        · rw [HRES.out]; exact hown
end Go.Proofs.YtjfoinikdifgmaaDoor
