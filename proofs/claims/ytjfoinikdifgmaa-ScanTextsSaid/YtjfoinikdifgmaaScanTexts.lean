/- The law ScanTexts: its walk, and what its row asks. -/
import Derived.Test.YtjfoinikdifgmaaText
import Derived.Test.YtjfoinikdifgmaaTokOpen
import Derived.Test.YtjfoinikdifgmaaRow
namespace Go.Proofs.Ytjfoinikdifgmaa
open Go.ChangeShapes Go.WideShapes Go.ChangeAt Go.RowKit

set_option maxHeartbeats 2000000 in
set_option maxRecDepth 100000 in
theorem scanTexts_walk (A : Option Addr) (c : Nat) (l : List Tok) (w : World) (hR : TokRow w A l) (hl : l.length ≤ 9223372036854775807) (hok : ∀ t ∈ l, t.text.size ≤ 9223372036854775807) :
    Calls Try.prog 3 #[.slice A l.length c] w fun e w' => e = .returned (.bool true) ∧ Below w.heap.size w w' := by
  have HOK := Lib.hid hok
  have HR := Lib.hid hR
  clear hok hR
  by_cases h100 : 100 < l.length
  · go_enter Try.func3, Try.ntmps3
    go_wp2
    go_ret
    exact ⟨rfl, Below.refl _ _⟩
  · go_enter Try.func3, Try.ntmps3
    go_wp2
    go_loop [3] (fun i => ∃ k : Nat, k ≤ l.length ∧ i = .int .i64 k ∧ Hid (∀ j (hj : j < l.length), j < k → l[j].text.size ≤ 100)) (fun i => l.length - (intOf i).toNat)
    case atStart => exact ⟨0, by omega, rfl, fun j _ hj => by omega⟩
    case round =>
      obtain ⟨k, hk, rfl, hall⟩ := hrel
      by_cases hlt : k < l.length
      · obtain ⟨b, o, rfl, hb, ht⟩ := HR.out k hlt
        have c1 := ht.c1
        have hsz := HOK.out l[k] (List.getElem_mem hlt)
        by_cases hs : 100 < l[k].text.size
        · go_wp2
          go_ret
          exact ⟨rfl, Below.refl _ _⟩
        · go_wp2
          go_round
          case rel =>
            refine ⟨k + 1, by omega, by go_num, fun j hj hjk => ?_⟩
            by_cases e : j = k
            · subst e; omega
            · exact hall j hj (by omega)
          case measure => simp [intOf]; omega
      · obtain rfl : k = l.length := by omega
        have hl100 : ∀ t ∈ l, t.text.size ≤ 100 := fun t ht => by
          obtain ⟨j, hj, rfl⟩ := List.mem_iff_getElem.1 ht
          exact hall j hj hj
        have c1 := text_any A c l w HR.out (by omega) hl100
        have c2 : ∀ w', Below w.heap.size w w' → Calls Try.prog 5 #[.slice A l.length c] w' fun e w'' => e = .returned (.string ⟨(textOf l).toArray⟩) ∧ w'' = w' := fun w' hb => rtext_any A c l w' (HR.out.below hb) (by omega) hl100
        generalize textOf l = t at *
        have C1 := Lib.hid c1
        have C2 := Lib.hid c2
        clear c1 c2 hl100
        go_wp2_with fail
        refine C1.out.mono ?_
        rintro e w1 ⟨rfl, hb⟩
        have HB := Lib.hid hb
        clear hb
        go_wp2_with fail
        refine (C2.out _ HB.out).mono ?_
        rintro e w' ⟨rfl, rfl⟩
        go_wp2_with fail
        go_ret
        exact ⟨ret_bool (by simp), HB.out⟩

set_option maxRecDepth 100000 in
theorem scanTexts_calls {H : Type} (enc : TypeId × Value → H) (W : World) (base : Nat) (args : Array Value) (ds : List (DataW H)) (p : List MemPlace)
    (hval : ∀ (j : Nat) t v, Try.f3.params[j]? = some t → args[j]? = some v → Value.okWide Try.prog W .any base t v)
    (hA : DataW.TrodAll enc Try.prog W 0 (fun _ => true) true Try.f3.params.toList args.toList ds p)
    (hsz : (DataW.weightsEach Try.prog (Try.f3.params.toList ++ Rows.scanTextsSpec.plain.varTypes Try.prog) (ds ++ [])).all (· ≤ reachBytes) = true) :
    Calls Try.prog 3 args W fun e W' => e = .returned (.bool true) ∧ Below W.heap.size W W' ∧ (Rows.scanTextsSpec.fn H (ds ++ [])) = { results := [.lit (.bool true)], args := ds } := by
  rw [Try.params3] at hA hval
  obtain ⟨v0, d0, rfl, rfl, h0⟩ := trodAll_one hA
  obtain ⟨a0, len, cap, rfl⟩ := okWide_slice Try.underlying22 (hval 0 22 v0 rfl rfl)
  obtain ⟨fuel, hf⟩ := h0
  obtain ⟨l, rfl, hR, hok, hl⟩ := open_toks (spare := fun _ => true) hf
  exact (scanTexts_walk a0 cap l W hR hl (fun t ht => (hok t ht).text)).mono fun e W' h => ⟨h.1, h.2, rfl⟩
end Go.Proofs.Ytjfoinikdifgmaa
