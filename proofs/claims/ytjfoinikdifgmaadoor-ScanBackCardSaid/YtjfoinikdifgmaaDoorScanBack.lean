/- The law ScanBack: its walk, and what its row asks. -/
import Derived.Test.YtjfoinikdifgmaaDoorBackR
import Derived.Test.YtjfoinikdifgmaaDoorTextD
import Derived.Test.YtjfoinikdifgmaaDoorAwake
import Derived.Test.YtjfoinikdifgmaaDoorScanWords
import Derived.Test.YtjfoinikdifgmaaDoorRow
import Derived.Deep.Cut
namespace Go.Proofs.YtjfoinikdifgmaaDoor
open Go.ChangeShapes Go.WideShapes Go.ChangeAt Go.RowKit
set_option linter.unusedVariables false
set_option linter.unusedSimpArgs false

theorem OfBytes.text {l : List Tok} {xs : List (List UInt8)} (h : OfBytes l xs) : textOf l = joinB xs := by
  induction h with
  | nil => rfl
  | @cons x a b l xs hx r ih =>
    have e : (ofTok x).text.data.toList = x := bytesOf_data x
    cases r with
    | nil => exact e
    | cons h2 r2 => simp only [textOf, joinB, e, ih]
theorem backToks_at : ∀ (xs : List (List UInt8)) (b : Int) (k : Nat) (hk : k < (backToks b xs).length), ((backToks b xs)[k]).line = 1 ∧ ((backToks b xs)[k]).col = b + sizes ((backToks b xs).take k) + k
  | x :: r, b, 0, hk => by simp [backToks, sizes]
  | x :: r, b, k + 1, hk => by
    have := backToks_at r (b + x.length + 1) k (by simpa [backToks] using hk)
    have e : (ofTok x).text.size = x.length := bytesOf_size x
    simp only [backToks, List.getElem_cons_succ, List.take_succ_cons, sizes, e]
    refine ⟨this.1, ?_⟩
    rw [this.2]
    push_cast
    omega

theorem sizes_take (l : List Tok) (k : Nat) (hk : k < l.length) : sizes (l.take (k + 1)) = sizes (l.take k) + l[k].text.size := by
  rw [List.take_succ_eq_append_getElem hk, sizes_append]
  simp [sizes]
theorem sizes_take_le (l : List Tok) (k : Nat) : sizes (l.take k) ≤ sizes l := by
  have h : sizes (l.take k ++ l.drop k) = sizes l := by rw [List.take_append_drop]
  rw [sizes_append] at h
  omega

set_option maxHeartbeats 4000000 in
set_option maxRecDepth 100000 in
theorem scanBack_walk (A : Option Addr) (c : Nat) (l : List UInt8) (w : World) (hR : ByteRow w A l) (hl : l.length ≤ 9223372036854775807) (hT : ScanTabs w) (hS : StrTabs w) :
    Calls Tryd.prog 9 #[.slice A l.length c] w fun e w' => e = .returned (.bool true) ∧ Below w.heap.size w w' := by
  have haw := awake_any w hT hS
  have HAW := Lib.hid haw
  have HT := Lib.hid hT
  have HST := Lib.hid hS
  have HR := Lib.hid hR
  clear haw hT hS hR
  by_cases hlong : 8000 < l.length
  · go_enter Tryd.func9, Tryd.ntmps9
    go_wp2_with fail
    refine HAW.out.mono ?_
    rintro e w1 ⟨rfl, hb⟩
    go_wp2_with fail
    go_ret
    exact ⟨rfl, hb⟩
  · have hsz := scan_sizes l
    rcases scan_res (l := l) (by omega) with h0 | ⟨a', b', hres, _⟩
    · obtain ⟨xs, hx, hj, hsc⟩ := scan_back (l := l) (by omega)
      obtain ⟨toks, hres⟩ : ∃ toks, scanOf l = (toks, 0, 0, 0) := ⟨(scanOf l).1, by rw [← h0]⟩
      rw [hres] at hx hsz
      simp only at hx hsz
      have htx : ∀ t ∈ toks, t.text.size ≤ 8000 := fun t ht => by
        have := sizes_mem ht
        omega
      have hjt : (⟨(textOf toks).toArray⟩ : ByteArray).size ≤ 16000 := by
        rw [hx.text]
        exact hj
      have hsc2 : scanOf (⟨(textOf toks).toArray⟩ : ByteArray).data.toList = (backToks 1 xs, 0, 0, 0) := by
        rw [hx.text]
        exact hsc
      have hsame := hx.same 1
      have hm := scan_sizes (⟨(textOf toks).toArray⟩ : ByteArray).data.toList
      rw [hsc2] at hm
      have hlen2 : (⟨(textOf toks).toArray⟩ : ByteArray).data.toList.length = (⟨(textOf toks).toArray⟩ : ByteArray).size := rfl
      rw [hlen2] at hm
      simp only at hm
      have HRES := Lib.hid hres
      have HX := Lib.hid htx
      have HSC := Lib.hid hsc2
      have HSAME := Lib.hid hsame
      have hat := fun k hk => backToks_at xs 1 k hk
      have hmm : (backToks 1 xs).length ≤ 16000 ∧ sizes (backToks 1 xs) ≤ 16000 := ⟨by omega, by omega⟩
      have hn8 : toks.length ≤ 8000 := by omega
      generalize hM : backToks 1 xs = M at *
      have HAT := Lib.hid hat
      clear hres htx hsc2 hsame hat hM hx hsc hj h0 hm
      generalize hS : (⟨(textOf toks).toArray⟩ : ByteArray) = S at *
      have HS := Lib.hid hS
      clear hS
      have hSL : S.data.toList.length = S.size := hlen2
      have HSL := Lib.hid hSL
      clear hlen2 hSL
      go_enter Tryd.func9, Tryd.ntmps9
      go_wp2_with fail
      refine HAW.out.mono ?_
      rintro e w1 ⟨rfl, hb⟩
      go_wp2_with fail
      refine (scan_any A c l w1 (HR.out.below hb) hl (HT.out.below hb) (HST.out.below hb)).mono ?_
      rintro e w2 ⟨⟨v, rfl, hown⟩, hb2⟩
      rw [HRES.out] at hown ⊢
      have hbw := hb.trans (hb2.mono hb.size)
      have hown := hown.mono hb.size
      obtain ⟨A1, c1, rfl, htr, hn⟩ := tokRow_of_own hown
      have HB := Lib.hid hbw
      have HTR := Lib.hid htr
      simp only
      clear hb hb2 hown hbw htr
      go_wp2_with fail
      refine (text_any A1 c1 toks w2 HTR.out hn8 HX.out).mono ?_
      rintro e w3 ⟨rfl, hb3⟩
      rw [HS.out]
      have HTR3 := Lib.hid (HTR.out.below hb3)
      have HB3 := Lib.hid (HB.out.trans (hb3.mono HB.out.size))
      clear hb3
      obtain ⟨c9, w4, hcv, hR4, hb4⟩ := text_bytes w3 S
      have hbw4 := HB3.out.trans (hb4.mono HB3.out.size)
      have hsc := scan_any (some ⟨w3.heap.size, 0, none⟩) c9 S.data.toList w4 hR4 (by rw [HSL.out]; omega) (HT.out.below hbw4) (HST.out.below hbw4)
      rw [HSL.out] at hsc
      have HC := Lib.hid hsc
      have HB4 := Lib.hid hbw4
      have HTR4 := Lib.hid (HTR3.out.below hb4)
      clear hsc hbw4 hR4 hb4
      go_wp2_with fail
      refine HC.out.mono ?_
      rintro e w5 ⟨⟨v, rfl, hown⟩, hb5⟩
      rw [HSC.out] at hown ⊢
      have HB5 := Lib.hid (HB4.out.trans (hb5.mono HB4.out.size))
      have HTR5 := Lib.hid (HTR4.out.below hb5)
      obtain ⟨A2, c2, rfl, htr2, hn2⟩ := tokRow_of_own hown
      have HTR2 := Lib.hid htr2
      simp only
      clear hb5 hown htr2 hcv HC
      go_wp2_with fail
      refine (same_any A1 A2 c1 c2 toks M false w5 HTR5.out HTR2.out hn hn2).mono ?_
      rintro e w6 ⟨rfl, hb6⟩
      rw [HSAME.out]
      have hbw6 := HB5.out.trans (hb6.mono HB5.out.size)
      have htr6 := HTR2.out.below hb6
      clear hb6
      go_wp2_with fail
      go_loopg [11, 12] (M.length + 1) (fun g x i wx => ∃ k : Nat, x = .int .i64 (1 + (sizes (M.take k) : Int) + k) ∧ i = .int .i64 k ∧ k ≤ M.length ∧ M.length - k < g ∧ Below w.heap.size w wx ∧ TokRow wx A2 M)
      case atStart => exact ⟨0, by simp [sizes], rfl, by omega, by omega, hbw6, htr6⟩
      case round =>
        obtain ⟨k, rfl, rfl, hk, hg, hbw, htr⟩ := hrel
        obtain ⟨g, rfl⟩ : ∃ g, gk = g + 1 := ⟨gk - 1, by omega⟩
        by_cases hkn : k < M.length
        · obtain ⟨b1, o1, rfl, hb1, ht⟩ := htr k hkn
          have hat := HAT.out k hkn
          have h1 := sizes_take M k hkn
          have h2 := sizes_take_le M (k + 1)
          have H1 := Lib.hid h1
          have a1 := ht.c1
          have a3 := ht.c3
          have a4 := ht.c4
          rw [hat.1] at a3
          rw [hat.2] at a4
          have HTR6 := Lib.hid htr
          have hts : (M[k].text.size : Int) ≤ 16000 := by omega
          have hss : sizes (M.take k) ≤ 16000 := by omega
          clear htr ht hat h1 h2
          go_wp2_with fail
          go_roundg g
          case measure => omega
          case rel => exact ⟨k + 1, by rw [H1.out]; push_cast; congr 1; omega, by go_num, by omega, by omega, hbw, HTR6.out⟩
        · have hke : k = M.length := by omega
          clear htr
          go_wp2_with fail
          go_ret
          exact ⟨rfl, hbw⟩
    · have HRES := Lib.hid hres
      clear hres hsz
      go_enter Tryd.func9, Tryd.ntmps9
      go_wp2_with fail
      refine HAW.out.mono ?_
      rintro e w1 ⟨rfl, hb⟩
      go_wp2_with fail
      refine (scan_any A c l w1 (HR.out.below hb) hl (HT.out.below hb) (HST.out.below hb)).mono ?_
      rintro e w2 ⟨⟨v, rfl, hown⟩, hb2⟩
      rw [HRES.out] at hown ⊢
      have hbw := hb.trans (hb2.mono hb.size)
      obtain ⟨A1, c1, rfl, htr, hn⟩ := tokRow_of_own hown
      simp only
      clear hb hb2 hown htr
      go_wp2_with fail
      go_ret
      exact ⟨rfl, hbw⟩

set_option maxRecDepth 100000 in
theorem scanBack_calls {H : Type} (enc : TypeId × Value → H) (W : World) (base : Nat) (args : Array Value) (ds : List (DataW H)) (p : List MemPlace)
    (hval : ∀ (j : Nat) t v, Tryd.f9.params[j]? = some t → args[j]? = some v → Value.okWide Tryd.prog W .any base t v)
    (hA : DataW.TrodAll enc Tryd.prog W 0 (fun _ => true) true Tryd.f9.params.toList args.toList ds p)
    (hsz : (DataW.weightsEach Tryd.prog (Tryd.f9.params.toList ++ Rows.scanBackSpec.plain.varTypes Tryd.prog) (ds ++ [])).all (· ≤ reachBytes) = true)
    (hL : laidMetH Tryd.prog Rows.scanBackRow.laid W) :
    Calls Tryd.prog 9 args W fun e W' => e = .returned (.bool true) ∧ Below W.heap.size W W' ∧ (Rows.scanBackSpec.fn H (ds ++ [])) = { results := [.lit (.bool true)], args := ds } := by
  have hT : ScanTabs W := scanTabs_of (by kernel_rfl) hL (by repeat (first | exact List.mem_cons_self | apply List.mem_cons_of_mem)) (by repeat (first | exact List.mem_cons_self | apply List.mem_cons_of_mem))
  have hS : StrTabs W := strTabs_of (by kernel_rfl) hL (by repeat (first | exact List.mem_cons_self | apply List.mem_cons_of_mem)) (by repeat (first | exact List.mem_cons_self | apply List.mem_cons_of_mem))
  rw [Tryd.params9] at hA hval
  obtain ⟨v0, d0, rfl, rfl, h0⟩ := trodAll_one hA
  obtain ⟨a0, len, cap, rfl⟩ := okWide_slice Tryd.underlying27 (hval 0 27 v0 rfl rfl)
  obtain ⟨fuel, hf⟩ := h0
  obtain ⟨l, rfl, hR, hl, hc⟩ := open_bytes hf
  exact (scanBack_walk a0 cap l W hR hl hT hS).mono fun e W' h => ⟨h.1, h.2, rfl⟩
end Go.Proofs.YtjfoinikdifgmaaDoor
