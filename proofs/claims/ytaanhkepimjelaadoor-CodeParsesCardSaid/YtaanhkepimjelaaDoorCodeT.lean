/- The walk of code.Text. -/
import Derived.Test.YtaanhkepimjelaaDoorCode9
import Derived.Test.YtaanhkepimjelaaDoorCodeR
import Derived.Test.YtaanhkepimjelaaDoorBuilder
import Derived.Lib.AppendIntMem
namespace Go.Proofs.YtaanhkepimjelaaDoor
open Go.RowKit Go.Sort
set_option linter.unusedVariables false
set_option linter.unusedSimpArgs false

/-- What is laid of packages code and strconv. -/
structure CodeTabs (w : World) : Prop where
  names : ∀ j, j < 30 → w.cell? ⟨0, j, none⟩ = some (.string (opName j))
  pow : Lib.TabIs Tryd.prog w "internal/strconv.uint64pow10" .u64 Lib.pow10Tab
theorem CodeTabs.below {w w' : World} (h : CodeTabs w) (hb : Below w.heap.size w w') : CodeTabs w' where
  names := fun j hj => cell_later hb (h.names j hj)
  pow := Lib.tabBelow_of_tabIs h.pow w' hb
theorem BufAt.later {T B b : Nat} {p : Value} {rest bs : List Value} {w w' : World} (h : BufAt T B b p rest bs w) (hb : Below w.heap.size w w') : BufAt T B b p rest bs w' := by
  have hlt := h.lt
  obtain ⟨hB, v, hbk, hown, hne, hz⟩ := h
  exact ⟨hB, v, (hb.block b hlt).trans hbk, own_below5 hown hb, hne, hz⟩
theorem Buf.later {T B b : Nat} {rest bs : List Value} {w w' : World} (h : Buf T B b rest bs w) (hb : Below w.heap.size w w') : Buf T B b rest bs w' := h.imp (·.later hb) (·.later hb)
theorem lies_builder5 : Lies 65 ([] : List Value).length := by unfold Lies; kernel_rfl
theorem str3 (a b c : List UInt8) : (⟨a.toArray⟩ ++ ⟨b.toArray⟩ ++ ⟨c.toArray⟩ : ByteArray) = ⟨(a ++ b ++ c).toArray⟩ := by
  apply ByteArray.ext
  simp
theorem str2 (a b : List UInt8) : (⟨a.toArray⟩ ++ ⟨b.toArray⟩ : ByteArray) = ⟨(a ++ b).toArray⟩ := by
  apply ByteArray.ext
  simp
theorem strCells_mk (l : List UInt8) : Lib.strCells ⟨l.toArray⟩ = Lib.byteCells l := by rw [strCells_bytes]

set_option maxHeartbeats 8000000 in
set_option maxRecDepth 100000 in
theorem text_any (A B : Option Addr) (cA cB : Nat) (p : Cp) (w : World) (hI : CpIn w A cA B cB p) (hT : CodeTabs w) :
    Calls Tryd.prog 17 #[.agg #[.slice A p.code.length cA, .int .i64 p.vars, .slice B p.arrays.length cB]] w fun e w' =>
      (p.May → e = .returned (.tuple #[.string ⟨(cpText p).toArray⟩, .int .i64 0])) ∧ (¬ p.May → e = .returned (.tuple #[.string ⟨#[]⟩, .int .i64 50])) ∧ Below w.heap.size w w' := by
  have hbn : Below w.heap.size w (w.alloc (.cells #[.slice A p.code.length cA, .int .i64 p.vars, .slice B p.arrays.length cB] 25)) := (Below.refl _ _).alloc (Nat.le_refl _) _
  have hP1 : PgAt (w.alloc (.cells #[.slice A p.code.length cA, .int .i64 p.vars, .slice B p.arrays.length cB] 25)) w.heap.size A p.code.length cA p.vars B p.arrays.length cB := PgAt.new
  have hM := may_any A B cA cB p _ (hI.below hbn)
  have hlc := hI.lc
  have hla := hI.la
  have hvo := hI.vok
  have HI := Lib.hid hI
  have HT := Lib.hid hT
  have HM := Lib.hid hM
  clear hI hT hM
  go_enter Tryd.func17, Tryd.ntmps17
  go_wp2_with fail
  generalize (w.alloc (.cells #[.slice A p.code.length cA, .int .i64 p.vars, .slice B p.arrays.length cB] 25)) = w1 at *
  refine HM.out.mono ?_
  rintro e w2 ⟨rfl, hb2⟩
  have hP2 := hP1.below hb2
  have hbw2 := hbn.trans (hb2.mono hbn.size)
  clear HM hb2 hbn hP1
  have HP2 := Lib.hid hP2
  have HBW2 := Lib.hid hbw2
  clear hP2 hbw2
  cases hmb : p.mayB
  · have HN := Lib.hid (show ¬ p.May from fun h => by rw [Cp.mayB_true h] at hmb; cases hmb)
    clear hmb
    go_wp2_with fail
    go_ret2
    exact ⟨fun h => absurd h HN.out, fun _ => rfl, HBW2.out⟩
  have hmay := Cp.mayB_iff.1 hmb
  have HMAY := Lib.hid hmay
  obtain ⟨ha1, hpos, hlen, hv0, hv1, hfit, _⟩ := Cp.whole_parts hmay.1
  have HFIT := Lib.hid hfit
  have hal := arraysOk_len _ _ ha1 (by decide)
  have q0 := HP2.out.g0
  have q1 := HP2.out.g1
  have q2 := HP2.out.g2
  have hPl : w.heap.size < w2.heap.size := World.block_lt_of_cell? w2 _ q0
  clear hmb hmay ha1 hfit
  go_wp2_with fail
  have hb3 : Below w2.heap.size w2 (w2.alloc (.cells #[.pointer none, .slice none 0 0] 65)) := (Below.refl _ _).alloc (Nat.le_refl _) _
  have hbuf3 : Buf 65 w2.heap.size w2.heap.size [] (Lib.byteCells []) (w2.alloc (.cells #[.pointer none, .slice none 0 0] 65)) := .inl ⟨Nat.le_refl _, .slice none 0 0, heap_alloc_new _ _, ⟨by simp [Lib.byteCells], .inl ⟨rfl, rfl⟩⟩, by simp [Value.ownBlock], fun _ => rfl⟩
  generalize hw3 : w2.alloc (.cells #[.pointer none, .slice none 0 0] 65) = w3 at *
  clear hw3
  have hT3 := HT.out.below (HBW2.out.trans (hb3.mono HBW2.out.size))
  refine (Tryd.strconv_Itoa p.vars hvo.1 hvo.2 w3 hT3.pow).mono ?_
  rintro e w4 ⟨rfl, kq, os, hw4⟩
  have hg4 : Below w3.heap.size w3 w4 := Gr.below ⟨kq, os, hw4⟩
  have hbuf4 := hbuf3.later hg4
  have hb4 := hb3.trans (hg4.mono hb3.size)
  have hil := Lib.itoa_length_le p.vars hvo.1 hvo.2
  clear hw4 hg4 hbuf3 hb3 hT3
  go_wp2_with fail
  have hst : (⟨#[118, 97, 114, 115, 32]⟩ ++ ⟨(Lib.itoa p.vars).toArray⟩ ++ ⟨#[10, 97, 114, 114, 97, 121, 115]⟩ : ByteArray) = ⟨(headText p.vars).toArray⟩ := str3 [118, 97, 114, 115, 32] (Lib.itoa p.vars) [10, 97, 114, 114, 97, 121, 115]
  have hhl := headText_len p.vars hvo.1 hvo.2
  rw [hst]
  refine (writeString_buf 65 w2.heap.size w2.heap.size [] _ _ w4 hbuf4 lies_builder5 (by decide) (by rw [Lib.byteCells_length]; show 0 + (headText p.vars).toArray.size ≤ _; simp; omega) hb4.size).mono ?_
  rintro e w5 ⟨rfl, hbuf5, hb5, hk5⟩
  rw [strCells_mk, byteCells_add, List.nil_append] at hbuf5
  have hbw5 := hb4.trans hb5
  have hz5 : w2.heap.size < w5.heap.size := hbuf5.lt
  have c0 : w5.cell? ⟨w.heap.size, 0, none⟩ = some (.slice A p.code.length cA) := cell_later hbw5 q0
  have c1 : w5.cell? ⟨w.heap.size, 2, none⟩ = some (.slice B p.arrays.length cB) := cell_later hbw5 q2
  have HBUF5 := Lib.hid hbuf5
  have HBW5 := Lib.hid hbw5
  clear hst hbuf4 hb4 hb5 hk5 hbuf5 hbw5 hil
  go_wp2_with fail
  clear c0 c1
  go_loopg [21] (p.arrays.length + 1) (fun g i wx => ∃ k : Nat, i = .int .i64 k ∧ k ≤ p.arrays.length ∧ p.arrays.length - k < g ∧ Hid (Buf 65 w2.heap.size w2.heap.size [] (Lib.byteCells (headText p.vars ++ arrText (p.arrays.take k))) wx) ∧ Hid (Below w2.heap.size w2 wx))
  case atStart => exact ⟨0, rfl, by omega, by omega, Lib.hid (by simpa [arrText] using HBUF5.out), HBW5⟩
  case round =>
    obtain ⟨k, rfl, hk, hg, HBUF, HBW⟩ := hrel
    obtain ⟨g, rfl⟩ : ∃ g, gk = g + 1 := ⟨gk - 1, by omega⟩
    clear HBUF5 HBW5 hz5
    have hI := HI.out.below (HBW2.out.trans (HBW.out.mono HBW2.out.size))
    by_cases hlt : k < p.arrays.length
    · obtain ⟨b1, o1, rfl, hbl, hc⟩ := hI.arrs k hlt
      have hxr := hI.aok _ (List.getElem_mem hlt)
      have HAT := Lib.hid (arrText_take p.arrays k hlt)
      have hal2 := arrText_len (p.arrays.take k) (fun n hn => hI.aok n (List.mem_of_mem_take hn))
      rw [List.length_take, Nat.min_eq_left hk] at hal2
      have hT6 := HT.out.below (HBW2.out.trans (HBW.out.mono HBW2.out.size))
      have HIT := Lib.hid (Tryd.strconv_Itoa p.arrays[k] hxr.1 hxr.2 wr hT6.pow)
      have hil := Lib.itoa_length_le p.arrays[k] hxr.1 hxr.2
      have HI2 := Lib.hid hI
      clear hT6 hI
      generalize p.arrays[k] = x at *
      go_wp2_with fail
      refine HIT.out.mono ?_
      rintro e w6 ⟨rfl, kq, os, hw6⟩
      have hg6 : Below wr.heap.size wr w6 := Gr.below ⟨kq, os, hw6⟩
      have hbuf6 := HBUF.out.later hg6
      have hb6 := HBW.out.trans (hg6.mono HBW.out.size)
      clear hw6 hg6 HIT HBUF HBW hc hbl
      go_wp2_with fail
      have hst : (⟨#[32]⟩ ++ ⟨(Lib.itoa x).toArray⟩ : ByteArray) = ⟨(32 :: Lib.itoa x).toArray⟩ := str2 [32] (Lib.itoa x)
      rw [hst]
      refine (writeString_buf 65 w2.heap.size w2.heap.size [] _ _ w6 hbuf6 lies_builder5 (by decide) (by rw [Lib.byteCells_length, List.length_append]; show _ + (32 :: Lib.itoa x).toArray.size ≤ _; simp; omega) hb6.size).mono ?_
      rintro e w7 ⟨rfl, hbuf7, hb7, hk7⟩
      rw [strCells_mk, byteCells_add, List.append_assoc, ← HAT.out] at hbuf7
      have HBUF7 := Lib.hid hbuf7
      have HBW7 := Lib.hid (hb6.trans hb7)
      clear hst hbuf6 hb6 hb7 hk7 hbuf7 hil HAT
      go_wp2_with fail
      go_roundg g
      case measure => omega
      case rel => exact ⟨k + 1, by go_num, by omega, by omega, HBUF7, HBW7⟩
    · have hke : k = p.arrays.length := by omega
      have hbuf := HBUF.out
      rw [hke, List.take_length] at hbuf
      have hal2 := arrText_len p.arrays (fun n hn => hI.aok n hn)
      have c0 : wr.cell? ⟨w.heap.size, 0, none⟩ = some (.slice A p.code.length cA) := cell_later HBW.out q0
      go_wp2_with fail
      refine (writeByte_buf 65 w2.heap.size w2.heap.size [] _ 10 wr hbuf lies_builder5 (by decide) (by rw [Lib.byteCells_length, List.length_append]; omega) HBW.out.size).mono ?_
      rintro e w8 ⟨rfl, hbuf8, hb8, hk8⟩
      have h10 : [Value.int .u8 10] = Lib.byteCells [10] := rfl
      rw [h10, byteCells_add] at hbuf8
      have hbw8 := HBW.out.trans hb8
      have c0 : w8.cell? ⟨w.heap.size, 0, none⟩ = some (.slice A p.code.length cA) := cell_later hbw8 q0
      have HBUF8 := Lib.hid hbuf8
      have HBW8 := Lib.hid hbw8
      clear hbuf hbuf8 hb8 hk8 h10 hbw8 HBUF HBW hI
      go_wp2_with fail
      clear c0
      generalize hpre : headText p.vars ++ arrText p.arrays ++ [10] = pre at *
      have HPRE := Lib.hid hpre
      have hprel : pre.length ≤ 22100 := by
        rw [← hpre, List.length_append, List.length_append]
        simp only [List.length_cons, List.length_nil]
        omega
      clear hpre hal2
      go_loopg [34] (p.code.length + 1) (fun g i wx => ∃ k : Nat, i = .int .i64 k ∧ k ≤ p.code.length ∧ p.code.length - k < g ∧ Hid (Buf 65 w2.heap.size w2.heap.size [] (Lib.byteCells (pre ++ codeText (p.code.take k))) wx) ∧ Hid (Below w2.heap.size w2 wx))
      case atStart => exact ⟨0, rfl, by omega, by omega, Lib.hid (by simpa [codeText] using HBUF8.out), HBW8⟩
      case round =>
        obtain ⟨k, rfl, hk, hg2, HBUF, HBW⟩ := hrel
        obtain ⟨g2, rfl⟩ : ∃ g2, gk = g2 + 1 := ⟨gk - 1, by omega⟩
        clear HBUF8 HBW8
        have hI := HI.out.below (HBW2.out.trans (HBW.out.mono HBW2.out.size))
        have hcl := codeText_len (p.code.take k) (fun i hi => hI.ok i (List.mem_of_mem_take hi))
        rw [List.length_take, Nat.min_eq_left hk] at hcl
        by_cases hlt : k < p.code.length
        · obtain ⟨b1, o1, rfl, hbl, d0, d1⟩ := hI.code k hlt
          obtain ⟨_, hn0, hn1⟩ := hI.ok _ (List.getElem_mem hlt)
          obtain ⟨hop0, hop1⟩ := fits_op (HFIT.out _ (List.getElem_mem hlt))
          have hct := codeText_take p.code k hlt
          unfold insText at hct
          have HCT := Lib.hid hct
          have hT6 := HT.out.below (HBW2.out.trans (HBW.out.mono HBW2.out.size))
          obtain ⟨o, ho⟩ : ∃ o : Nat, p.code[k].op = o := ⟨p.code[k].op.toNat, by omega⟩
          rw [ho] at d0 hop0 hop1 HCT
          rw [Int.toNat_natCast] at HCT
          clear hct hI ho
          generalize p.code[k].n = n at *
          have hnm := hT6.names o (by omega)
          have hns := opName_size o
          have hgl : 0 < wr.heap.size := World.block_lt_of_cell? wr _ hnm
          have hbne : w2.heap.size ≠ wr.heap.size := by have := HBUF.out.lt; omega
          have hT7 := hT6.below ((Below.refl _ _).alloc (Nat.le_refl _) (.cells #[.int .u8 (o : Int), .int .i64 n] 33))
          have HT7 := Lib.hid hT7
          clear hT6 hT7
          generalize opName o = nm at *
          have hot : (o : Int).toNat = o := rfl
          go_wp2_with fail
          have hblk := heap_alloc_new wr (.cells #[.int .u8 (o : Int), .int .i64 n] 33)
          have hbuf9 := HBUF.out.alloc (.cells #[.int .u8 (o : Int), .int .i64 n] 33)
          have hb9 := HBW.out.alloc HBW.out.size (.cells #[.int .u8 (o : Int), .int .i64 n] 33)
          generalize wr.alloc (.cells #[.int .u8 (o : Int), .int .i64 n] 33) = w9 at *
          generalize hB : wr.heap.size = bi at *
          refine (writeString_buf 65 w2.heap.size w2.heap.size [] _ nm w9 hbuf9 lies_builder5 (by decide) (by rw [Lib.byteCells_length, List.length_append]; omega) hb9.size).mono ?_
          rintro e wa ⟨rfl, hbufa, hba, hka⟩
          rw [strCells_bytes, byteCells_add] at hbufa
          have hblka := hka.block hblk (Ne.symm hbne) (by decide)
          have hba2 := hb9.trans hba
          have e1 : wa.cell? ⟨bi, 1, none⟩ = some (.int .i64 n) := by rw [Lib.cell_of_heap hblka]; rfl
          have hTa := (HT.out.below (HBW2.out.trans (hba2.mono HBW2.out.size))).pow
          have hnmz : nm.data.toList.length = nm.size := by simp
          clear hba hka hbuf9 hb9 hblk HT7 hbl d0 d1
          by_cases hn : n = 0
          · rw [if_pos hn, List.nil_append] at HCT
            subst hn
            clear hTa
            go_wp2_with fail
            refine (writeByte_buf 65 w2.heap.size w2.heap.size [] _ 10 wa hbufa lies_builder5 (by decide) (by rw [Lib.byteCells_length, List.length_append, List.length_append]; omega) hba2.size).mono ?_
            rintro e wb ⟨rfl, hbufb, hbb, hkb⟩
            have h10 : [Value.int .u8 10] = Lib.byteCells [10] := rfl
            rw [h10, byteCells_add, List.append_assoc, List.append_assoc, ← HCT.out] at hbufb
            have HBUFB := Lib.hid hbufb
            have HBWB := Lib.hid (hba2.trans hbb)
            clear hbufb hbb hkb h10 hbufa hba2 hblka HBUF HBW
            go_wp2_with fail
            go_roundg g2
            case measure => omega
            case rel => exact ⟨k + 1, by go_num, by omega, by omega, HBUFB, HBWB⟩
          · rw [if_neg hn] at HCT
            have hnb : (n != 0) = true := by simpa using hn
            have HIT := Lib.hid (Tryd.strconv_FormatInt_10 n hn0 hn1 wa hTa)
            have hil := Lib.itoa_length_le n hn0 hn1
            clear hn hTa
            go_wp2_with fail
            refine HIT.out.mono ?_
            rintro e wb ⟨rfl, kq2, os2, hwb⟩
            have hgb : Below wa.heap.size wa wb := Gr.below ⟨kq2, os2, hwb⟩
            have hbufb := hbufa.later hgb
            have hbb := hba2.trans (hgb.mono hba2.size)
            clear hwb hgb HIT hbufa hba2 hblka e1
            go_wp2_with fail
            have hst : (⟨#[32]⟩ ++ ⟨(Lib.itoa n).toArray⟩ : ByteArray) = ⟨(32 :: Lib.itoa n).toArray⟩ := str2 [32] (Lib.itoa n)
            rw [hst]
            refine (writeString_buf 65 w2.heap.size w2.heap.size [] _ _ wb hbufb lies_builder5 (by decide) (by rw [Lib.byteCells_length, List.length_append, List.length_append]; show _ + (32 :: Lib.itoa n).toArray.size ≤ _; simp only [List.size_toArray, List.length_cons]; omega) hbb.size).mono ?_
            rintro e wc ⟨rfl, hbufc, hbc, hkc⟩
            rw [strCells_mk, byteCells_add] at hbufc
            have hbc2 := hbb.trans hbc
            clear hst hbufb hbb hbc hkc
            go_wp2_with fail
            refine (writeByte_buf 65 w2.heap.size w2.heap.size [] _ 10 wc hbufc lies_builder5 (by decide) (by rw [Lib.byteCells_length, List.length_append, List.length_append, List.length_append, List.length_cons]; omega) hbc2.size).mono ?_
            rintro e wd ⟨rfl, hbufd, hbd, hkd⟩
            have h10 : [Value.int .u8 10] = Lib.byteCells [10] := rfl
            rw [h10, byteCells_add, List.append_assoc, List.append_assoc, List.append_assoc, ← HCT.out] at hbufd
            have HBUFD := Lib.hid hbufd
            have HBWD := Lib.hid (hbc2.trans hbd)
            clear hbufd hbd hkd h10 hbufc hbc2 HBUF HBW
            go_wp2_with fail
            go_roundg g2
            case measure => omega
            case rel => exact ⟨k + 1, by go_num, by omega, by omega, HBUFD, HBWD⟩
        · have hke : k = p.code.length := by omega
          have hbuf := HBUF.out
          rw [hke, List.take_length] at hbuf
          have HSB := Lib.hid (string_buf 65 w2.heap.size w2.heap.size [] _ wr hbuf)
          clear hbuf hI
          go_wp2_with fail
          refine HSB.out.mono ?_
          rintro e we ⟨rfl, hbe⟩
          have HBE := Lib.hid (HBW.out.trans hbe)
          clear hbe HSB
          go_wp2_with fail
          go_ret2
          refine ⟨fun _ => ?_, fun h => absurd HMAY.out h, HBW2.out.trans (HBE.out.mono HBW2.out.size)⟩
          unfold cpText
          rw [HPRE.out]
          rfl
end Go.Proofs.YtaanhkepimjelaaDoor
