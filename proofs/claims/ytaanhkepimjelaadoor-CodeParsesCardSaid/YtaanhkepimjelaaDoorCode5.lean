/- The walks of (code.Program).whole's literal, slices.IndexFunc and ContainsFunc at it, (code.Program).whole. -/
import Derived.Test.YtaanhkepimjelaaDoorCode3
import Derived.Deep.LoopGhost
import Derived.Deep.Cut
import Derived.WalkSmall
namespace Go.Proofs.YtaanhkepimjelaaDoor
open Go.RowKit Go.Sort
set_option linter.unusedVariables false
set_option linter.unusedSimpArgs false

/-- A program's value, laid in a block. -/
structure PgAt (w : World) (P : Nat) (A : Option Addr) (lc c1 : Nat) (v : Int) (B : Option Addr) (la c2 : Nat) : Prop where
  g0 : w.cell? ⟨P, 0, none⟩ = some (.slice A lc c1)
  g1 : w.cell? ⟨P, 1, none⟩ = some (.int .i64 v)
  g2 : w.cell? ⟨P, 2, none⟩ = some (.slice B la c2)
theorem PgAt.below {w w' : World} {P : Nat} {A : Option Addr} {lc c1 : Nat} {v : Int} {B : Option Addr} {la c2 : Nat} (h : PgAt w P A lc c1 v B la c2) (hb : Below w.heap.size w w') : PgAt w' P A lc c1 v B la c2 :=
  ⟨cell_later hb h.g0, cell_later hb h.g1, cell_later hb h.g2⟩
theorem PgAt.new {w : World} {A : Option Addr} {lc c1 : Nat} {v : Int} {B : Option Addr} {la c2 : Nat} {t : TypeId} : PgAt (w.alloc (.cells #[.slice A lc c1, .int .i64 v, .slice B la c2] t)) w.heap.size A lc c1 v B la c2 := by
  constructor <;> rw [World.cell?_alloc_new] <;> rfl
theorem Below.gr {w w' w'' : World} {b : Nat} (h : Below b w w') (hg : Gr w' w'') (hb : b ≤ w'.heap.size) : Below b w w'' := h.trans (hg.below.mono hb)

set_option maxHeartbeats 1000000 in
set_option maxRecDepth 100000 in
theorem odd_any (P : Nat) (A B : Option Addr) (lc c1 la c2 : Nat) (v : Int) (i : Ins) (w : World) (hi : i.Ok) (hl : lc ≤ 9223372036854775807) (hm : la ≤ 9223372036854775807) (hP : PgAt w P A lc c1 v B la c2) :
    Calls Tryd.prog 50 #[.agg #[.int .u8 i.op, .int .i64 i.n], .pointer (some ⟨P, 0, none⟩)] w fun e w' => e = .returned (.bool (!fitsOf v la lc i)) ∧ Gr w w' := by
  have HT := Lib.hid (fun (w : World) => takes_any A B lc c1 la c2 v i w hi hl hm)
  have hbn : Below w.heap.size w (w.alloc (.cells #[.int .u8 i.op, .int .i64 i.n] 33)) := (Below.refl _ _).alloc (Nat.le_refl _) _
  have hP1 := hP.below hbn
  have q0 := hP1.g0
  have q1 := hP1.g1
  have q2 := hP1.g2
  have hg : Gr w (w.alloc (.cells #[.int .u8 i.op, .int .i64 i.n] 33)) := (Gr.refl w).alloc _
  have e0 : (w.alloc (.cells #[.int .u8 i.op, .int .i64 i.n] 33)).cell? ⟨w.heap.size, 0, none⟩ = some (.int .u8 i.op) := by rw [World.cell?_alloc_new]; rfl
  have e1 : (w.alloc (.cells #[.int .u8 i.op, .int .i64 i.n] 33)).cell? ⟨w.heap.size, 1, none⟩ = some (.int .i64 i.n) := by rw [World.cell?_alloc_new]; rfl
  clear hP hP1 hbn
  go_enter Tryd.func50, Tryd.ntmps50
  go_wp2_with (go_at_call 26; refine (HT.out _).mono ?_; rintro e w' ⟨rfl, hg2⟩)
  go_ret
  exact ⟨rfl, hg.trans hg2⟩

theorem all_take {α : Type} (p : α → Bool) (l : List α) (k : Nat) (hk : k < l.length) : (l.take (k + 1)).all p = ((l.take k).all p && p l[k]) := by
  rw [List.take_succ_eq_append_getElem hk, List.all_append]
  simp
theorem all_not {α : Type} {p : α → Bool} {l : List α} {k : Nat} (hk : k < l.length) (h : p l[k] = false) : l.all p = false := by
  rw [List.all_eq_false]
  exact ⟨l[k], List.getElem_mem hk, by rw [h]; decide⟩
/-- What IndexFunc tells: a place, or -1. -/
def IdxG (b : Bool) (w : World) (e : Ending) (w' : World) : Prop := (∃ i : Int, e = .returned (.int .i64 i) ∧ decide (0 ≤ i) = b) ∧ Gr w w'

set_option maxHeartbeats 2000000 in
set_option maxRecDepth 100000 in
theorem indexOdd_any (P : Nat) (A B : Option Addr) (lc c1 la c2 : Nat) (v : Int) (l : List Ins) (X : Option Addr) (cx : Nat) (w : World) (hok : ∀ i ∈ l, i.Ok) (hl : lc ≤ 9223372036854775807) (hm : la ≤ 9223372036854775807) (hn : l.length ≤ 9223372036854775807) (hP : PgAt w P A lc c1 v B la c2) (hR : InsRow w X l) :
    Calls Tryd.prog 70 #[.slice X l.length cx, .func (.func 50) #[] #[.pointer (some ⟨P, 0, none⟩)]] w (IdxG (!(l.all (fitsOf v la lc))) w) := by
  have HR := Lib.hid hR
  have HP := Lib.hid hP
  have HOK := Lib.hid hok
  clear hR hP hok
  go_enter Tryd.func70, Tryd.ntmps70
  go_wp2_with fail
  go_loopg [8] (l.length + 1) (fun g i wx => ∃ k : Nat, i = .int .i64 k ∧ k ≤ l.length ∧ l.length - k < g ∧ Hid ((l.take k).all (fitsOf v la lc) = true) ∧ Hid (Gr w wx))
  case atStart => exact ⟨0, rfl, by omega, by omega, rfl, Gr.refl _⟩
  case round =>
    obtain ⟨k, rfl, hk, hg, HALL, HG⟩ := hrel
    obtain ⟨g, rfl⟩ : ∃ g, gk = g + 1 := ⟨gk - 1, by omega⟩
    by_cases hlt : k < l.length
    · obtain ⟨b, o, rfl, hbl, hc0, hc1⟩ := (HR.out.below HG.out.below) k hlt
      have HTK := Lib.hid (all_take (fitsOf v la lc) l k hlt)
      have HNO := Lib.hid (fun h => all_not (p := fitsOf v la lc) (l := l) (k := k) hlt h)
      have HC := Lib.hid (odd_any P A B lc c1 la c2 v l[k] wr (HOK.out _ (List.getElem_mem hlt)) hl hm (HP.out.below HG.out.below))
      generalize l[k] = i at *
      go_wp2_with fail
      refine HC.out.mono ?_
      rintro r w3 ⟨rfl, hg3⟩
      have HG3 := Lib.hid (HG.out.trans hg3)
      clear hg3 HG hc0 hc1 HC
      cases hx : fitsOf v la lc i
      · have HF := Lib.hid (HNO.out hx)
        clear hx
        go_wp2_with fail
        go_ret
        exact ⟨⟨k, rfl, by rw [HF.out]; simp⟩, HG3.out⟩
      · have HX := Lib.hid hx
        clear hx
        go_wp2_with fail
        go_roundg g
        case measure => omega
        case rel => exact ⟨k + 1, by go_num, by omega, by omega, Lib.hid (by rw [HTK.out, HALL.out, HX.out]; rfl), HG3⟩
    · have hke : k = l.length := by omega
      have h := HALL.out
      rw [hke, List.take_length] at h
      have HH := Lib.hid h
      clear h
      go_wp2_with fail
      go_ret
      exact ⟨⟨-1, rfl, by rw [HH.out]; rfl⟩, HG.out⟩

set_option maxHeartbeats 1000000 in
set_option maxRecDepth 100000 in
theorem containsOdd_any (P : Nat) (A B : Option Addr) (lc c1 la c2 : Nat) (v : Int) (l : List Ins) (X : Option Addr) (cx : Nat) (w : World) (hok : ∀ i ∈ l, i.Ok) (hl : lc ≤ 9223372036854775807) (hm : la ≤ 9223372036854775807) (hn : l.length ≤ 9223372036854775807) (hP : PgAt w P A lc c1 v B la c2) (hR : InsRow w X l) :
    Calls Tryd.prog 51 #[.slice X l.length cx, .func (.func 50) #[] #[.pointer (some ⟨P, 0, none⟩)]] w fun e w' => e = .returned (.bool (!(l.all (fitsOf v la lc)))) ∧ Gr w w' := by
  have HC := Lib.hid (indexOdd_any P A B lc c1 la c2 v l X cx w hok hl hm hn hP hR)
  clear hP hR hok
  generalize l.all (fitsOf v la lc) = r at *
  go_enter Tryd.func51, Tryd.ntmps51
  go_wp2_with fail
  refine HC.out.mono ?_
  rintro e w3 ⟨⟨i, rfl, hi⟩, hg3⟩
  clear HC
  have HI := Lib.hid hi
  have HG := Lib.hid hg3
  clear hi hg3
  go_wp2_with fail
  go_ret
  exact ⟨ret_bool HI.out, HG.out⟩
end Go.Proofs.YtaanhkepimjelaaDoor
