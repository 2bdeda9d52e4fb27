/- The walk of dispatcherref01.Same. -/
import Derived.Test.YtjfoinikdifgmaaDoorRefScan4
namespace Go.Proofs.YtjfoinikdifgmaaDoor
open Go.RowKit
set_option linter.unusedVariables false

def tokSame (pl : Bool) (x y : Tok) : Bool := !((x.kind != y.kind) || !(x.text.toList == y.text.toList) || (x.num != y.num) || (pl && ((x.line != y.line) || (x.col != y.col))))
def sameToks (pl : Bool) : List Tok → List Tok → Bool
  | [], [] => true
  | x :: a, y :: b => tokSame pl x y && sameToks pl a b
  | _, _ => false
theorem sameToks_len {pl : Bool} : ∀ {a b : List Tok}, a.length ≠ b.length → sameToks pl a b = false
  | [], [], h => absurd rfl h
  | [], _ :: _, _ => rfl
  | _ :: _, [], _ => rfl
  | x :: a, y :: b, h => by
    unfold sameToks
    rw [sameToks_len (a := a) (b := b) (by simpa using h), Bool.and_false]

set_option maxHeartbeats 4000000 in
set_option maxRecDepth 100000 in
theorem same_any (A B : Option Addr) (ca cb : Nat) (la lb : List Tok) (pl : Bool) (w : World) (hA : TokRow w A la) (hB : TokRow w B lb) (hla : la.length ≤ 9223372036854775807) (hlb : lb.length ≤ 9223372036854775807) :
    Calls Tryd.prog 22 #[.slice A la.length ca, .slice B lb.length cb, .bool pl] w fun e w' => e = .returned (.bool (sameToks pl la lb)) ∧ Below w.heap.size w w' := by
  by_cases hlen : la.length = lb.length
  · have HA := Lib.hid hA
    have HB := Lib.hid hB
    have HL := Lib.hid hlen
    clear hA hB
    rw [← hlen]
    clear hlen hlb
    go_enter Tryd.func22, Tryd.ntmps22
    go_wp2_with fail
    go_loopg [7] (la.length + 1) (fun g i wx => ∃ k : Nat, i = .int .i64 k ∧ k ≤ la.length ∧ la.length - k < g ∧ Below w.heap.size w wx ∧ Hid (sameToks pl (la.drop k) (lb.drop k) = sameToks pl la lb))
    case atStart => exact ⟨0, rfl, by omega, by omega, Below.refl _ _, rfl⟩
    case round =>
      obtain ⟨k, rfl, hk, hg, hbw, hs⟩ := hrel
      obtain ⟨g, rfl⟩ : ∃ g, gk = g + 1 := ⟨gk - 1, by omega⟩
      by_cases hlt : k < la.length
      · have hlt2 : k < lb.length := by have := HL.out; omega
        have hunf := hs.out
        rw [List.drop_eq_getElem_cons hlt, List.drop_eq_getElem_cons hlt2, sameToks] at hunf
        obtain ⟨b1, o1, rfl, hb1, ht1⟩ := HA.out k hlt
        obtain ⟨b2, o2, rfl, hb2, ht2⟩ := HB.out k hlt2
        have ht1 := ht1.below hbw
        have ht2 := ht2.below hbw
        have HU := Lib.hid hunf
        clear hunf hs
        generalize la[k] = x at *
        generalize lb[k] = y at *
        have a0 := ht1.c0
        have a1 := ht1.c1
        have a2 := ht1.c2
        have a3 := ht1.c3
        have a4 := ht1.c4
        have e0 := ht2.c0
        have e1 := ht2.c1
        have e2 := ht2.c2
        have e3 := ht2.c3
        have e4 := ht2.c4
        have hb1 : b1 < wr.heap.size := Nat.lt_of_lt_of_le hb1 hbw.size
        have hb2 : b2 < wr.heap.size := Nat.lt_of_lt_of_le hb2 hbw.size
        go_upto_region 6 with fail
        go_region
        · have tx : TokBlk (((wr.alloc (Obj.cells #[Value.int IntKind.u8 x.kind, Value.string x.text, Value.int IntKind.i64 x.num, Value.int IntKind.i64 x.line, Value.int IntKind.i64 x.col] 36)).alloc (Obj.cells #[Value.int IntKind.u8 y.kind, Value.string y.text, Value.int IntKind.i64 y.num, Value.int IntKind.i64 y.line, Value.int IntKind.i64 y.col] 36)).drew) wr.heap.size x := (heap_alloc_old _ _ (by simp)).trans (TokBlk.new wr x)
          have ty : TokBlk (((wr.alloc (Obj.cells #[Value.int IntKind.u8 x.kind, Value.string x.text, Value.int IntKind.i64 x.num, Value.int IntKind.i64 x.line, Value.int IntKind.i64 x.col] 36)).alloc (Obj.cells #[Value.int IntKind.u8 y.kind, Value.string y.text, Value.int IntKind.i64 y.num, Value.int IntKind.i64 y.line, Value.int IntKind.i64 y.col] 36)).drew) (wr.heap.size + 1) y := by
            have h : TokBlk ((wr.alloc (Obj.cells #[Value.int IntKind.u8 x.kind, Value.string x.text, Value.int IntKind.i64 x.num, Value.int IntKind.i64 x.line, Value.int IntKind.i64 x.col] 36)).alloc (Obj.cells #[Value.int IntKind.u8 y.kind, Value.string y.text, Value.int IntKind.i64 y.num, Value.int IntKind.i64 y.line, Value.int IntKind.i64 y.col] 36)) (wr.alloc (Obj.cells #[Value.int IntKind.u8 x.kind, Value.string x.text, Value.int IntKind.i64 x.num, Value.int IntKind.i64 x.line, Value.int IntKind.i64 x.col] 36)).heap.size y := TokBlk.new _ y
            have e : (wr.alloc (Obj.cells #[Value.int IntKind.u8 x.kind, Value.string x.text, Value.int IntKind.i64 x.num, Value.int IntKind.i64 x.line, Value.int IntKind.i64 x.col] 36)).heap.size = wr.heap.size + 1 := by simp
            rw [e] at h
            exact h
          have hbn : Below w.heap.size w (((wr.alloc (Obj.cells #[Value.int IntKind.u8 x.kind, Value.string x.text, Value.int IntKind.i64 x.num, Value.int IntKind.i64 x.line, Value.int IntKind.i64 x.col] 36)).alloc (Obj.cells #[Value.int IntKind.u8 y.kind, Value.string y.text, Value.int IntKind.i64 y.num, Value.int IntKind.i64 y.line, Value.int IntKind.i64 y.col] 36)).drew) := ((hbw.alloc hbw.size (Obj.cells #[Value.int IntKind.u8 x.kind, Value.string x.text, Value.int IntKind.i64 x.num, Value.int IntKind.i64 x.line, Value.int IntKind.i64 x.col] 36)).alloc (Nat.le_trans hbw.size (by simp)) (Obj.cells #[Value.int IntKind.u8 y.kind, Value.string y.text, Value.int IntKind.i64 y.num, Value.int IntKind.i64 y.line, Value.int IntKind.i64 y.col] 36)).drew
          generalize hb1' : wr.heap.size = bx at *
          generalize hb2' : bx + 1 = bb at *
          generalize ((wr.alloc (Obj.cells #[Value.int IntKind.u8 x.kind, Value.string x.text, Value.int IntKind.i64 x.num, Value.int IntKind.i64 x.line, Value.int IntKind.i64 x.col] 36)).alloc (Obj.cells #[Value.int IntKind.u8 y.kind, Value.string y.text, Value.int IntKind.i64 y.num, Value.int IntKind.i64 y.line, Value.int IntKind.i64 y.col] 36)).drew = wn at *
          clear hb1' hb2'
          have hU := HU.out
          unfold tokSame at hU
          have p0 := tx.c0
          have p1 := tx.c1
          have p2 := tx.c2
          have p3 := tx.c3
          have p4 := tx.c4
          have q0 := ty.c0
          have q1 := ty.c1
          have q2 := ty.c2
          have q3 := ty.c3
          have q4 := ty.c4
          clear tx ty hbw hb1 hb2 HU ht1 ht2 a0 a1 a2 a3 a4 e0 e1 e2 e3 e4 HA HB
          cases dk : (x.kind != y.kind)
          · cases dt : (x.text.toList == y.text.toList)
            · rw [dk, dt] at hU
              have HU := Lib.hid hU
              clear hU
              go_wp2_with fail
              go_ret
              exact ⟨ret_bool (by have h := HU.out; simpa using h), hbn⟩
            · cases dn : (x.num != y.num)
              · cases pl
                · rw [dk, dt, dn] at hU
                  have HU := Lib.hid hU
                  clear hU
                  go_wp2_with fail
                  go_roundg g
                  case measure => omega
                  case rel => exact ⟨k + 1, by go_num, by omega, by omega, hbn, by have h := HU.out; unfold Hid; simpa using h⟩
                · cases dl : (x.line != y.line)
                  · cases dc : (x.col != y.col)
                    · rw [dk, dt, dn, dl, dc] at hU
                      have HU := Lib.hid hU
                      clear hU
                      go_wp2_with fail
                      go_roundg g
                      case measure => omega
                      case rel => exact ⟨k + 1, by go_num, by omega, by omega, hbn, by have h := HU.out; unfold Hid; simpa using h⟩
                    · rw [dk, dt, dn, dl, dc] at hU
                      have HU := Lib.hid hU
                      clear hU
                      go_wp2_with fail
                      go_ret
                      exact ⟨ret_bool (by have h := HU.out; simpa using h), hbn⟩
                  · rw [dk, dt, dn, dl] at hU
                    have HU := Lib.hid hU
                    clear hU
                    go_wp2_with fail
                    go_ret
                    exact ⟨ret_bool (by have h := HU.out; simpa using h), hbn⟩
              · rw [dk, dt, dn] at hU
                have HU := Lib.hid hU
                clear hU
                go_wp2_with fail
                go_ret
                exact ⟨ret_bool (by have h := HU.out; simpa using h), hbn⟩
          · rw [dk] at hU
            have HU := Lib.hid hU
            clear hU
            go_wp2_with fail
            go_ret
            exact ⟨ret_bool (by have h := HU.out; simpa using h), hbn⟩
        · have ty : TokBlk (((wr.alloc (Obj.cells #[Value.int IntKind.u8 y.kind, Value.string y.text, Value.int IntKind.i64 y.num, Value.int IntKind.i64 y.line, Value.int IntKind.i64 y.col] 36)).alloc (Obj.cells #[Value.int IntKind.u8 x.kind, Value.string x.text, Value.int IntKind.i64 x.num, Value.int IntKind.i64 x.line, Value.int IntKind.i64 x.col] 36)).drew) wr.heap.size y := (heap_alloc_old _ _ (by simp)).trans (TokBlk.new wr y)
          have tx : TokBlk (((wr.alloc (Obj.cells #[Value.int IntKind.u8 y.kind, Value.string y.text, Value.int IntKind.i64 y.num, Value.int IntKind.i64 y.line, Value.int IntKind.i64 y.col] 36)).alloc (Obj.cells #[Value.int IntKind.u8 x.kind, Value.string x.text, Value.int IntKind.i64 x.num, Value.int IntKind.i64 x.line, Value.int IntKind.i64 x.col] 36)).drew) (wr.heap.size + 1) x := by
            have h : TokBlk ((wr.alloc (Obj.cells #[Value.int IntKind.u8 y.kind, Value.string y.text, Value.int IntKind.i64 y.num, Value.int IntKind.i64 y.line, Value.int IntKind.i64 y.col] 36)).alloc (Obj.cells #[Value.int IntKind.u8 x.kind, Value.string x.text, Value.int IntKind.i64 x.num, Value.int IntKind.i64 x.line, Value.int IntKind.i64 x.col] 36)) (wr.alloc (Obj.cells #[Value.int IntKind.u8 y.kind, Value.string y.text, Value.int IntKind.i64 y.num, Value.int IntKind.i64 y.line, Value.int IntKind.i64 y.col] 36)).heap.size x := TokBlk.new _ x
            have e : (wr.alloc (Obj.cells #[Value.int IntKind.u8 y.kind, Value.string y.text, Value.int IntKind.i64 y.num, Value.int IntKind.i64 y.line, Value.int IntKind.i64 y.col] 36)).heap.size = wr.heap.size + 1 := by simp
            rw [e] at h
            exact h
          have hbn : Below w.heap.size w (((wr.alloc (Obj.cells #[Value.int IntKind.u8 y.kind, Value.string y.text, Value.int IntKind.i64 y.num, Value.int IntKind.i64 y.line, Value.int IntKind.i64 y.col] 36)).alloc (Obj.cells #[Value.int IntKind.u8 x.kind, Value.string x.text, Value.int IntKind.i64 x.num, Value.int IntKind.i64 x.line, Value.int IntKind.i64 x.col] 36)).drew) := ((hbw.alloc hbw.size (Obj.cells #[Value.int IntKind.u8 y.kind, Value.string y.text, Value.int IntKind.i64 y.num, Value.int IntKind.i64 y.line, Value.int IntKind.i64 y.col] 36)).alloc (Nat.le_trans hbw.size (by simp)) (Obj.cells #[Value.int IntKind.u8 x.kind, Value.string x.text, Value.int IntKind.i64 x.num, Value.int IntKind.i64 x.line, Value.int IntKind.i64 x.col] 36)).drew
          generalize hb1' : wr.heap.size = bb at *
          generalize hb2' : bb + 1 = bx at *
          generalize ((wr.alloc (Obj.cells #[Value.int IntKind.u8 y.kind, Value.string y.text, Value.int IntKind.i64 y.num, Value.int IntKind.i64 y.line, Value.int IntKind.i64 y.col] 36)).alloc (Obj.cells #[Value.int IntKind.u8 x.kind, Value.string x.text, Value.int IntKind.i64 x.num, Value.int IntKind.i64 x.line, Value.int IntKind.i64 x.col] 36)).drew = wn at *
          clear hb1' hb2'
          have hU := HU.out
          unfold tokSame at hU
          have p0 := tx.c0
          have p1 := tx.c1
          have p2 := tx.c2
          have p3 := tx.c3
          have p4 := tx.c4
          have q0 := ty.c0
          have q1 := ty.c1
          have q2 := ty.c2
          have q3 := ty.c3
          have q4 := ty.c4
          clear tx ty hbw hb1 hb2 HU ht1 ht2 a0 a1 a2 a3 a4 e0 e1 e2 e3 e4 HA HB
          cases dk : (x.kind != y.kind)
          · cases dt : (x.text.toList == y.text.toList)
            · rw [dk, dt] at hU
              have HU := Lib.hid hU
              clear hU
              go_wp2_with fail
              go_ret
              exact ⟨ret_bool (by have h := HU.out; simpa using h), hbn⟩
            · cases dn : (x.num != y.num)
              · cases pl
                · rw [dk, dt, dn] at hU
                  have HU := Lib.hid hU
                  clear hU
                  go_wp2_with fail
                  go_roundg g
                  case measure => omega
                  case rel => exact ⟨k + 1, by go_num, by omega, by omega, hbn, by have h := HU.out; unfold Hid; simpa using h⟩
                · cases dl : (x.line != y.line)
                  · cases dc : (x.col != y.col)
                    · rw [dk, dt, dn, dl, dc] at hU
                      have HU := Lib.hid hU
                      clear hU
                      go_wp2_with fail
                      go_roundg g
                      case measure => omega
                      case rel => exact ⟨k + 1, by go_num, by omega, by omega, hbn, by have h := HU.out; unfold Hid; simpa using h⟩
                    · rw [dk, dt, dn, dl, dc] at hU
                      have HU := Lib.hid hU
                      clear hU
                      go_wp2_with fail
                      go_ret
                      exact ⟨ret_bool (by have h := HU.out; simpa using h), hbn⟩
                  · rw [dk, dt, dn, dl] at hU
                    have HU := Lib.hid hU
                    clear hU
                    go_wp2_with fail
                    go_ret
                    exact ⟨ret_bool (by have h := HU.out; simpa using h), hbn⟩
              · rw [dk, dt, dn] at hU
                have HU := Lib.hid hU
                clear hU
                go_wp2_with fail
                go_ret
                exact ⟨ret_bool (by have h := HU.out; simpa using h), hbn⟩
          · rw [dk] at hU
            have HU := Lib.hid hU
            clear hU
            go_wp2_with fail
            go_ret
            exact ⟨ret_bool (by have h := HU.out; simpa using h), hbn⟩
      · obtain rfl : k = la.length := by omega
        have hr : sameToks pl la lb = true := by
          rw [← hs.out, List.drop_length, HL.out, List.drop_length]
          rfl
        have HR := Lib.hid hr
        clear hr hs
        go_wp2_with fail
        go_ret
        exact ⟨ret_bool HR.out.symm, hbw⟩
  · have hne : ((la.length : Int) != (lb.length : Int)) = true := by simp; omega
    have hf := sameToks_len (pl := pl) hlen
    rw [hf]
    clear hf hA hB
    go_enter Tryd.func22, Tryd.ntmps22
    go_wp2_with fail
    go_ret
    exact ⟨rfl, Below.refl _ _⟩
end Go.Proofs.YtjfoinikdifgmaaDoor
