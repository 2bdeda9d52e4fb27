/- The walk of scan.Scan. -/
import Derived.Test.YtjfoinikdifgmaaDoorScan9
import Derived.Test.YtjfoinikdifgmaaDoorScan6
import Derived.Test.YtjfoinikdifgmaaDoorScanF
import Derived.Test.YtjfoinikdifgmaaDoorBytes
import Derived.Deep.QuietTactic
import Derived.BigQuiet
import Derived.BigRegion
import Derived.WalkSmall
import Derived.Laws.IdiomRangeMap
namespace Go.Proofs.YtjfoinikdifgmaaDoor
open Go.RowKit

def ScanPost (l : List UInt8) (w : World) (e : Ending) (w' : World) : Prop :=
  (∃ v, e = .returned (.tuple #[v, .int .i64 (scanOf l).2.1, .int .i64 (scanOf l).2.2.1, .int .i64 (scanOf l).2.2.2]) ∧ w'.ownsRow w.heap.size 36 5 v (scanOf l).1.length (tokCells (scanOf l).1)) ∧ Below w.heap.size w w'

theorem results_tmp4 {fn : Func} {t u v x : Tmp} (h : fn.results = #[.tmp t, .tmp u, .tmp v, .tmp x]) (tmps : Array Value) (P : Program) (w : World) :
    (results fn tmps).run P w = .ok (.tuple #[tmps.getD t undef, tmps.getD u undef, tmps.getD v undef, tmps.getD x undef]) w := by simp [results, h]
theorem own_none (w : World) (B e n : Nat) : w.ownsRow B e n (.slice none 0 0) 0 [] := ⟨by simp, .inl ⟨rfl, rfl⟩⟩
theorem own_below {w w1 : World} {base : Nat} {e : TypeId} {size n : Nat} {v : Value} {xs : List Value} (h : w.ownsRow base e size v n xs) (hb : Below w.heap.size w w1) : w1.ownsRow base e size v n xs :=
  h.kept (row := none) ⟨hb.os, hb.tape, hb.output, hb.size, fun i hi _ => hb.block i hi⟩ (by cases v.ownBlock <;> simp)
theorem own_lt5 {w : World} {base : Nat} {e : TypeId} {size n : Nat} {v : Value} {xs : List Value} (h : w.ownsRow base e size v n xs) (k : Nat) (hk : v.ownBlock = some k) : k < w.heap.size := by
  rcases h.2 with ⟨rfl, _⟩ | ⟨g, cap, cur, rfl, _, hg, _⟩
  · simp [Value.ownBlock] at hk
  · have : g = k := by simpa [Value.ownBlock] using hk
    subst this
    exact (Array.getElem?_eq_some_iff.1 hg).1
theorem own_low5 {w : World} {base : Nat} {e : TypeId} {size n : Nat} {v : Value} {xs : List Value} (h : w.ownsRow base e size v n xs) (k : Nat) (hk : v.ownBlock = some k) : base ≤ k := by
  rcases h.2 with ⟨rfl, _⟩ | ⟨g, cap, cur, rfl, hb, _⟩
  · simp [Value.ownBlock] at hk
  · have : g = k := by simpa [Value.ownBlock] using hk
    omega
theorem Tryd.infoTok : (Tryd.prog.info? 36).map (fun i => (i.zero, i.size, i.bytes)) = some (some (.agg #[.int .u8 0, .string ByteArray.empty, .int .i64 0, .int .i64 0, .int .i64 0]), 5, 48) := by kernel_rfl
theorem own_blk {w : World} {base b : Nat} {s : ByteArray} {x y : Int} {size n : Nat} {v : Value} {xs : List Value} (h : w.ownsRow base 36 size v n xs) (hb : RdAt w b s x y) : v.ownBlock ≠ some b := by
  rcases h.2 with ⟨rfl, _⟩ | ⟨g, cap, cur, rfl, _, hg, _⟩
  · simp [Value.ownBlock]
  · intro e
    have : g = b := by simpa [Value.ownBlock] using e
    subst this
    unfold RdAt at hb
    rw [hg] at hb
    injection hb with hb
    injection hb with _ ht
    exact absurd ht (by decide)

set_option maxHeartbeats 4000000 in
set_option maxRecDepth 100000 in
theorem scan_any (A : Option Addr) (c : Nat) (l : List UInt8) (w : World) (hR : ByteRow w A l) (hl : l.length ≤ 9223372036854775807) (hT : ScanTabs w) (hS : StrTabs w) :
    Calls Tryd.prog 21 #[.slice A l.length c] w (ScanPost l w) := by
  by_cases hlong : 20000 < l.length
  · have hsc : scanOf l = ([], 0, 0, 3) := by unfold scanOf; rw [if_pos hlong]
    have HS := Lib.hid hsc
    clear hsc hR hT hS
    go_enter Tryd.func21, Tryd.ntmps21
    go_wp2
    refine bodyPost_ret (results_tmp4 rfl _ _ _) rfl ?_
    refine ⟨⟨.slice none 0 0, ?_, ?_⟩, Below.refl _ _⟩
    · rw [HS.out]; rfl
    · rw [HS.out]; exact own_none _ _ _ _
  · have hsc : scanOf l = scanF (l.length + 1) l 1 1 [] := by unfold scanOf; rw [if_neg hlong]
    have hcv := convert_row c hR
    have HS := Lib.hid hsc
    have HT := Lib.hid hT
    have HST := Lib.hid hS
    have HR := Lib.hid hR
    clear hsc hT hS hR
    go_enter Tryd.func21, Tryd.ntmps21
    go_wp2
    clear hcv
    go_loopg [7] (l.length + 1) (fun g v wx => ∃ (r : List UInt8) (a b : Int) (acc : List Tok), RdAt wx w.heap.size (bytesOf r) a b ∧ wx.ownsRow w.heap.size 36 5 v acc.length (tokCells acc) ∧ Below w.heap.size w wx ∧ r.length < g ∧ Hid (scanF g r a b acc = scanOf l) ∧ 1 ≤ a ∧ a + r.length ≤ 20001 ∧ 1 ≤ b ∧ b + r.length ≤ 20001 ∧ acc.length + r.length ≤ 20000)
    case atStart => exact ⟨l, 1, 1, [], heap_alloc_new _ _, own_none _ _ _ _, (Below.refl _ _).alloc (Nat.le_refl _) _, by omega, HS.out.symm, by omega, by omega, by omega, by omega, by simp; omega⟩
    case round =>
      obtain ⟨r, a, b, acc, hrd, hown, hbw, hrg, hsf, ha1, ha2, hb1, hb2, hcnt⟩ := hrel
      obtain ⟨g, rfl⟩ : ∃ g, gk = g + 1 := ⟨gk - 1, by omega⟩
      have c0 := hrd.c0
      have hsz := bytesOf_size r
      by_cases hr0 : r = []
      · subst hr0
        have hres : scanOf l = (acc, 0, 0, 0) := by rw [← hsf.out, scanF, if_pos rfl]
        have HRES := Lib.hid hres
        have hne : (!(bytesOf []).toList.isEmpty) = false := by rw [ByteArray.toList_eq]; rfl
        clear hres hsz
        go_wp2_with fail
        refine bodyPost_ret (results_tmp4 rfl _ _ _) rfl ?_
        refine ⟨⟨u7, ?_, ?_⟩, hbw⟩
        · rw [HRES.out]; rfl
        · rw [HRES.out]; exact hown
      · have hne : (!(bytesOf r).toList.isEmpty) = true := by
          rw [ByteArray.toList_eq, bytesOf_data]
          cases r with
          | nil => exact absurd rfl hr0
          | cons => rfl
        have HSZ := Lib.hid hsz
        have hbl := fun w => blankLen_any (bytesOf r) w (by rw [HSZ.out]; omega)
        rw [bytesOf_data] at hbl
        have HBL := Lib.hid hbl
        clear hbl hsz
        have hle := blankLen_le r
        by_cases hk : 0 < blankLen r
        · have hunf : scanF (g + 1) r a b acc = scanF g (r.drop (blankLen r)) (adv (r.take (blankLen r)) a b).1 (adv (r.take (blankLen r)) a b).2 acc := by
            rw [scanF, if_neg hr0, if_pos hk]
          have hadv := adv_bd1 (r.take (blankLen r)) a b ha1 hb1
          rw [List.length_take, Nat.min_eq_left hle] at hadv
          have hskip : ∀ w', RdAt w' w.heap.size (bytesOf r) a b → Calls Tryd.prog 38 #[.pointer (some ⟨w.heap.size, 0, none⟩), .int .i64 (blankLen r)] w' fun e w'' => e = .returned (.tuple #[]) ∧
              (RdAt w'' w.heap.size ((bytesOf r).extract (blankLen r) (bytesOf r).size) (adv (r.take (blankLen r)) a b).1 (adv (r.take (blankLen r)) a b).2 ∧ w'.grownBy w'' (some w.heap.size)) := fun w' h => by
            have := skip_any w.heap.size (blankLen r) (bytesOf r) a b w' h (by rw [HSZ.out]; exact hle) (by rw [HSZ.out]; omega) (by omega) (by omega) (by omega) (by omega)
            rw [bytesOf_data] at this
            exact this
          have hext : (bytesOf r).extract (blankLen r) (bytesOf r).size = bytesOf (r.drop (blankLen r)) := by
            apply ByteArray.ext
            apply Array.ext'
            rw [Lib.extract_to_end, bytesOf_data, bytesOf_data]
          rw [hext] at hskip
          have HUNF := Lib.hid hunf
          have HSK := Lib.hid hskip
          clear hunf hskip hext
          generalize blankLen r = n at *
          have hdl : (r.drop n).length = r.length - n := List.length_drop
          have HDL := Lib.hid hdl
          generalize (adv (r.take n) a b).1 = a' at *
          generalize (adv (r.take n) a b).2 = b' at *
          clear hdl
          go_wp2_with fail
          refine (HBL.out _).mono ?_
          rintro e w1 ⟨rfl, hb⟩
          have hrd1 : RdAt w1 w.heap.size (bytesOf r) a b := (hb.block _ (Array.getElem?_eq_some_iff.1 hrd).1).trans hrd
          have hown1 := own_below hown hb
          have hbw1 := hbw.trans (hb.mono hbw.size)
          clear hb hrd hown hbw c0
          go_wp2_with fail
          refine (HSK.out _ hrd1).mono ?_
          rintro e w2 ⟨rfl, hrd2, hg2⟩
          have hown2 := hown1.kept hg2 (.inr (own_blk hown1 hrd1))
          have hbw2 := hbw1.grown hg2 hbw1.size (fun k hk => by injection hk with hk; omega)
          clear hown1 hrd1 hg2 hbw1
          go_wp2_with fail
          go_roundg g
          case measure => omega
          case rel =>
            refine ⟨r.drop n, a', b', acc, hrd2, hown2, hbw2, by rw [HDL.out]; omega, ?_, by omega, by rw [HDL.out]; omega, by omega, by rw [HDL.out]; omega, by rw [HDL.out]; omega⟩
            exact HUNF.out.symm.trans hsf
        · have hk0 : blankLen r = 0 := by omega
          rw [hk0] at HBL
          have hfst := fun w hT hS => first_any (bytesOf r) w (by rw [HSZ.out]; omega) hT hS
          rw [bytesOf_data] at hfst
          have HF := Lib.hid hfst
          have HK0 := Lib.hid hk0
          clear hfst hk0 hk hle
          by_cases hkind : (firstTok r).kind = 0
          · have hres : scanOf l = ([], a, b, 10) := by
              rw [← hsf.out, scanF, if_neg hr0, if_neg (by rw [HK0.out]; omega), if_pos hkind]
            have HRES := Lib.hid hres
            clear hres
            generalize firstTok r = t at *
            have HKIND := Lib.hid hkind
            have hkb : (t.kind == 0) = true := by simp [hkind]
            clear hkind
            go_wp2_with fail
            refine (HBL.out _).mono ?_
            rintro e w1 ⟨rfl, hb⟩
            have hrd1 : RdAt w1 w.heap.size (bytesOf r) a b := (hb.block _ (Array.getElem?_eq_some_iff.1 hrd).1).trans hrd
            have hbw1 := hbw.trans (hb.mono hbw.size)
            clear hb hrd hown hbw c0
            have c0 := hrd1.c0
            go_wp2_with fail
            refine (HF.out _ (HT.out.below hbw1) (HST.out.below hbw1)).mono ?_
            rintro e w2 ⟨rfl, hb⟩
            have hrd2 : RdAt w2 w.heap.size (bytesOf r) a b := (hb.block _ (Array.getElem?_eq_some_iff.1 hrd1).1).trans hrd1
            have hbw2 := hbw1.trans (hb.mono hbw1.size)
            clear hb hrd1 hbw1 c0
            unfold Tok.agg
            go_wp2_with fail
            have hrd3 : RdAt (w2.alloc (Obj.cells #[Value.int IntKind.u8 t.kind, Value.string t.text, Value.int IntKind.i64 t.num, Value.int IntKind.i64 t.line, Value.int IntKind.i64 t.col] 36)) w.heap.size (bytesOf r) a b := (heap_alloc_old w2 _ (Array.getElem?_eq_some_iff.1 hrd2).1).trans hrd2
            have hbw3 := hbw2.alloc hbw2.size (Obj.cells #[Value.int IntKind.u8 t.kind, Value.string t.text, Value.int IntKind.i64 t.num, Value.int IntKind.i64 t.line, Value.int IntKind.i64 t.col] 36)
            generalize w2.alloc (Obj.cells #[Value.int IntKind.u8 t.kind, Value.string t.text, Value.int IntKind.i64 t.num, Value.int IntKind.i64 t.line, Value.int IntKind.i64 t.col] 36) = w3 at *
            have c1 := hrd3.c1
            have c2 := hrd3.c2
            clear hrd2 hbw2
            go_quiet (fail)
            go_wp2_with fail
            refine bodyPost_ret (results_tmp4 rfl _ _ _) rfl ?_
            refine ⟨⟨.slice none 0 0, ?_, ?_⟩, below_drewN hbw3 _⟩
            · rw [HRES.out]; rfl
            · rw [HRES.out]; exact own_none _ _ _ _
          · have hok := firstTok_ok r hkind
            have hunf : scanF (g + 1) r a b acc = scanF g (r.drop (firstTok r).text.size) (adv (r.take (firstTok r).text.size) a b).1 (adv (r.take (firstTok r).text.size) a b).2 (acc ++ [{ firstTok r with line := a, col := b }]) := by
              rw [scanF, if_neg hr0, if_neg (by rw [HK0.out]; omega), if_neg hkind]
            have hle := hok.le
            have hpos := hok.pos
            have hadv := adv_bd1 (r.take (firstTok r).text.size) a b ha1 hb1
            rw [List.length_take, Nat.min_eq_left hle] at hadv
            have hskip : ∀ w', RdAt w' w.heap.size (bytesOf r) a b → Calls Tryd.prog 38 #[.pointer (some ⟨w.heap.size, 0, none⟩), .int .i64 (firstTok r).text.size] w' fun e w'' => e = .returned (.tuple #[]) ∧
                (RdAt w'' w.heap.size ((bytesOf r).extract (firstTok r).text.size (bytesOf r).size) (adv (r.take (firstTok r).text.size) a b).1 (adv (r.take (firstTok r).text.size) a b).2 ∧ w'.grownBy w'' (some w.heap.size)) := fun w' h => by
              have := skip_any w.heap.size (firstTok r).text.size (bytesOf r) a b w' h (by rw [HSZ.out]; exact hle) (by rw [HSZ.out]; omega) (by omega) (by omega) (by omega) (by omega)
              rw [bytesOf_data] at this
              exact this
            have hext : (bytesOf r).extract (firstTok r).text.size (bytesOf r).size = bytesOf (r.drop (firstTok r).text.size) := by
              apply ByteArray.ext
              apply Array.ext'
              rw [Lib.extract_to_end, bytesOf_data, bytesOf_data]
            rw [hext] at hskip
            have hdl : (r.drop (firstTok r).text.size).length = r.length - (firstTok r).text.size := List.length_drop
            have HUNF := Lib.hid hunf
            have HSK := Lib.hid hskip
            have HDL := Lib.hid hdl
            clear hunf hskip hext hok hdl
            have hkb : ((firstTok r).kind == 0) = false := by simp [hkind]
            have HKIND := Lib.hid hkind
            clear hkind
            generalize firstTok r = t at *
            generalize r.drop t.text.size = r' at *
            generalize (adv (r.take t.text.size) a b).1 = a' at *
            generalize (adv (r.take t.text.size) a b).2 = b' at *
            go_wp2_with fail
            refine (HBL.out _).mono ?_
            rintro e w1 ⟨rfl, hb⟩
            have hrd1 : RdAt w1 w.heap.size (bytesOf r) a b := (hb.block _ (Array.getElem?_eq_some_iff.1 hrd).1).trans hrd
            have hown1 := own_below hown hb
            have hbw1 := hbw.trans (hb.mono hbw.size)
            clear hb hrd hown hbw c0
            have c0 := hrd1.c0
            go_wp2_with fail
            refine (HF.out _ (HT.out.below hbw1) (HST.out.below hbw1)).mono ?_
            rintro e w2 ⟨rfl, hb⟩
            have hrd2 : RdAt w2 w.heap.size (bytesOf r) a b := (hb.block _ (Array.getElem?_eq_some_iff.1 hrd1).1).trans hrd1
            have hown2 := own_below hown1 hb
            have hbw2 := hbw1.trans (hb.mono hbw1.size)
            clear hb hrd1 hbw1 c0 hown1
            unfold Tok.agg
            go_wp2_with fail
            have hrd3 : RdAt (w2.alloc (Obj.cells #[Value.int IntKind.u8 t.kind, Value.string t.text, Value.int IntKind.i64 t.num, Value.int IntKind.i64 t.line, Value.int IntKind.i64 t.col] 36)) w.heap.size (bytesOf r) a b := (heap_alloc_old w2 _ (Array.getElem?_eq_some_iff.1 hrd2).1).trans hrd2
            have hbw3 := hbw2.alloc hbw2.size (Obj.cells #[Value.int IntKind.u8 t.kind, Value.string t.text, Value.int IntKind.i64 t.num, Value.int IntKind.i64 t.line, Value.int IntKind.i64 t.col] 36)
            have hown3 := hown2.alloc (Obj.cells #[Value.int IntKind.u8 t.kind, Value.string t.text, Value.int IntKind.i64 t.num, Value.int IntKind.i64 t.line, Value.int IntKind.i64 t.col] 36)
            have ht3 := TokBlk.new w2 t
            have hne : w.heap.size ≠ w2.heap.size := Nat.ne_of_lt (Array.getElem?_eq_some_iff.1 hrd2).1
            have hlow : w.heap.size ≤ w2.heap.size := hbw2.size
            have hneB : u7.ownBlock ≠ some w2.heap.size := fun e => Nat.lt_irrefl _ (own_lt5 hown2 _ e)
            generalize w2.heap.size = B at *
            generalize w2.alloc (Obj.cells #[Value.int IntKind.u8 t.kind, Value.string t.text, Value.int IntKind.i64 t.num, Value.int IntKind.i64 t.line, Value.int IntKind.i64 t.col] 36) = w3 at *
            have c1 := hrd3.c1
            have c2 := hrd3.c2
            have f3 := ht3.f 3
            have f4 := ht3.f 4
            have d3 := ht3.c3
            have d4 := ht3.c4
            clear hrd2 hbw2 hown2
            go_region
            have ht4 : TokBlk ((w3.setCell ⟨B, 3, none⟩ (.int .i64 a)).setCell ⟨B, 4, none⟩ (.int .i64 b)).drew B { t with line := a, col := b } := (ht3.set3 a).set4 b
            have hrd4 : RdAt ((w3.setCell ⟨B, 3, none⟩ (.int .i64 a)).setCell ⟨B, 4, none⟩ (.int .i64 b)).drew w.heap.size (bytesOf r) a b := ((Below.heap_setCell _ ⟨B, 4, none⟩ _ _ hne).trans (Below.heap_setCell _ ⟨B, 3, none⟩ _ _ hne)).trans hrd3
            have hbw4 : Below w.heap.size w ((w3.setCell ⟨B, 3, none⟩ (.int .i64 a)).setCell ⟨B, 4, none⟩ (.int .i64 b)).drew := ((hbw3.setCell (p := ⟨B, 3, none⟩) hlow _).setCell (p := ⟨B, 4, none⟩) hlow _).drew
            have hown4 : ((w3.setCell ⟨B, 3, none⟩ (.int .i64 a)).setCell ⟨B, 4, none⟩ (.int .i64 b)).drew.ownsRow w.heap.size 36 5 u7 acc.length (tokCells acc) :=
              (hown3.kept (grownBy_set (grownBy_set (World.grownBy.refl w3 (some B)) 3 _) 4 _) (.inr hneB)).drew
            generalize ((w3.setCell ⟨B, 3, none⟩ (.int .i64 a)).setCell ⟨B, 4, none⟩ (.int .i64 b)).drew = w4 at *
            clear hrd3 hbw3 hown3 ht3 c1 c2 d3 d4 f3 f4
            have d0 := ht4.c0
            have d1 := ht4.c1
            have d2 := ht4.c2
            have d3 := ht4.c3
            have d4 := ht4.c4
            simp only at d0 d1 d2 d3 d4
            obtain ⟨i0, hi, hz0, hz1, hz2⟩ := info_parts Tryd.infoTok
            have hbase := hbw4.size
            go_wp2_with (at_builtin; refine wpList_append_own _ rfl _ _ 28 rfl w.heap.size 36 i0 _ 5 48 Tryd.underlying28 hi hz0 hz1 hz2 rfl (by decide) _ _ _ rfl (hown4.alloc _) ⟨w4.heap.size, 0, none⟩ 1 1 (Tok.cells { t with line := a, col := b }) rfl rfl ?c1 ?c2 ?c3 ?c4 ?c5 ?_)
            case c1 =>
              intro j u hj
              have hadd : (⟨w4.heap.size, 0, none⟩ : Addr).add j = ⟨w4.heap.size, j, none⟩ := by
                unfold Addr.add
                split
                · rename_i h; subst h; rfl
                · simp
              rw [hadd, World.cell?_alloc_new]
              have e : (#[Value.int IntKind.u8 t.kind, Value.string t.text, Value.int IntKind.i64 t.num, Value.int IntKind.i64 a, Value.int IntKind.i64 b] : Array Value) = (Tok.cells { t with line := a, col := b }).toArray := rfl
              rw [e, List.getElem?_toArray]
              exact hj
            case c2 =>
              intro u hu
              simp [Tok.cells] at hu
              rcases hu with rfl | rfl | rfl | rfl | rfl <;> rfl
            case c3 => unfold maxLen; omega
            case c4 => omega
            case c5 => simp; omega
            intro v' w5 hown5 hgrow _
            have hrd5 : RdAt w5 w.heap.size (bytesOf r) a b := by
              have h1 := (Array.getElem?_eq_some_iff.1 hrd4).1
              have h2 := hgrow.block w.heap.size (by simp; omega) (fun e => own_blk hown4 hrd4 e.symm)
              exact (h2.trans (heap_alloc_old w4 _ h1)).trans hrd4
            have hneB4 : some B ≠ u7.ownBlock := fun e => hneB e.symm
            have ht5 : TokBlk w5 B { t with line := a, col := b } := by
              have h1 := ht4.lt
              have h2 := hgrow.block B (by simp; omega) hneB4
              exact (h2.trans (heap_alloc_old w4 _ h1)).trans ht4
            have hbw5 : Below w.heap.size w w5 := (hbw4.alloc hbw4.size _).grown hgrow (by simp; omega) (fun k hk => own_low5 hown4 k hk)
            have e1 := ht5.c1
            simp only at e1
            clear hi hz0 hz1 hz2 d0 d1 d2 d3 d4 ht4 hrd4 hown4 hgrow hbw4 ht5 hneB hneB4 hbase
            go_wp2_with fail
            refine (HSK.out _ hrd5).mono ?_
            rintro e w6 ⟨rfl, hrd6, hg6⟩
            have hown6 := hown5.kept hg6 (.inr (own_blk hown5 hrd5))
            have hbw6 := hbw5.grown hg6 hbw5.size (fun k hk => by injection hk with hk; omega)
            clear hown5 hrd5 hg6 hbw5
            go_wp2_with fail
            go_roundg g
            case measure => omega
            case rel =>
              refine ⟨r', a', b', acc ++ [{ t with line := a, col := b }], hrd6, ?_, hbw6, by rw [HDL.out]; omega, ?_, by omega, by rw [HDL.out]; omega, by omega, by rw [HDL.out]; omega, by rw [HDL.out]; simp; omega⟩
              · have e2 : tokCells (acc ++ [{ t with line := a, col := b }]) = tokCells acc ++ Tok.cells { t with line := a, col := b } := by simp [tokCells]
                rw [e2]
                simpa using hown6
              · exact HUNF.out.symm.trans hsf
end Go.Proofs.YtjfoinikdifgmaaDoor
