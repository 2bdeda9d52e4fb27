/- scan.first at every text. -/
import Derived.Test.YtjfoinikdifgmaaDoorScan8
namespace Go.Proofs.YtjfoinikdifgmaaDoor
open Go.RowKit

theorem firstTok_num {l : List UInt8} (h : (decide (0 < lead isNamed l) && headLetter l) = false) (hm : 0 < lead isDigit l) :
    firstTok l = if numOk (l.take (lead isDigit l)) then (⟨2, bytesOf (l.take (lead isDigit l)), valOf (l.take (lead isDigit l)), 0, 0⟩ : Tok) else ⟨0, .empty, 0, 0, 0⟩ := by
  unfold firstTok
  rw [h, if_neg (by decide), if_pos hm]
theorem firstTok_sign {l : List UInt8} (h : (decide (0 < lead isNamed l) && headLetter l) = false) (hm : lead isDigit l = 0) : firstTok l = signTok (signOf l) := by
  unfold firstTok
  rw [h, if_neg (by decide), if_neg (by omega)]
  cases signOf l <;> rfl

theorem first_any (s : ByteArray) (w : World) (hs : s.size ≤ 100000) (hT : ScanTabs w) (hS : StrTabs w) :
    Calls Tryd.prog 39 #[.string s] w fun e w' => e = .returned (firstTok s.data.toList).agg ∧ Below w.heap.size w w' := by
  by_cases h0 : 0 < lead isNamed s.data.toList
  · have hz : 0 < s.size := by
      have := lead_le isNamed s.data.toList
      have hlen : s.data.toList.length = s.size := by simp
      omega
    have hh : headLetter s.data.toList = isLetter ((s[0]'hz).toNat : Int) := by
      unfold headLetter
      have : s.data.toList.head? = some (s[0]'hz) := by
        rw [List.head?_eq_getElem?, List.getElem?_eq_getElem (by simpa using hz)]
        rfl
      rw [this]; rfl
    cases hl : isLetter ((s[0]'hz).toNat : Int) with
    | true => exact first_word s w hs hT h0 (by rw [hh, hl])
    | false =>
      have hb : (decide (0 < lead isNamed s.data.toList) && headLetter s.data.toList) = false := by rw [hh, hl]; simp
      by_cases hm : 0 < lead isDigit s.data.toList
      · rw [firstTok_num hb hm]
        exact first_num_a s w hs hS hz h0 hl hm
      · rw [firstTok_sign hb (by omega)]
        exact first_sign_a s w hs hT hz h0 hl (by omega)
  · have hb : (decide (0 < lead isNamed s.data.toList) && headLetter s.data.toList) = false := by simp [h0]
    by_cases hm : 0 < lead isDigit s.data.toList
    · rw [firstTok_num hb hm]
      exact first_num_b s w hs hS (by omega) hm
    · rw [firstTok_sign hb (by omega)]
      exact first_sign_b s w hs hT (by omega) (by omega)
end Go.Proofs.YtjfoinikdifgmaaDoor
