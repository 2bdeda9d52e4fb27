/- The walk of dispatcherref01.end. -/
import Derived.Test.YtjfoinikdifgmaaDoorRefScan2
import Derived.Test.YtjfoinikdifgmaaDoorBytes
namespace Go.Proofs.YtjfoinikdifgmaaDoor
open Go.RowKit

/-- How many bytes stand together at the head of a text that begins with no blank. -/
def endLen (m : List UInt8) : Nat :=
  if headLetter m then lead isNamed m
  else if m.head?.any (fun c => isDigit (c.toNat : Int)) then lead isDigit m
  else if 1 < m.length ∧ isSign (bytesOf (m.take 2)) = true then 2 else 1

theorem lead_drop_stop {p : Int → Bool} {l : List UInt8} {at_ j : Nat} (hj : at_ + j < l.length) (ha : ∀ i (hi : i < l.length), at_ ≤ i → i < at_ + j → p ((l[i].toNat : Nat) : Int) = true) (hs : p ((l[at_ + j].toNat : Nat) : Int) = false) : lead p (l.drop at_) = j := by
  refine lead_stop (by simp; omega) (fun i hi => ?_) ?_
  · rw [List.getElem_drop]; exact ha _ _ (by omega) (by omega)
  · rw [List.getElem_drop]; exact hs
theorem lead_drop_all {p : Int → Bool} {l : List UInt8} {at_ : Nat} (ha : ∀ i (hi : i < l.length), at_ ≤ i → p ((l[i].toNat : Nat) : Int) = true) : lead p (l.drop at_) = l.length - at_ := by
  rw [lead_all (fun i hi => by rw [List.getElem_drop]; exact ha _ _ (by omega)), List.length_drop]
theorem head_drop {l : List UInt8} {at_ : Nat} (h : at_ < l.length) : (l.drop at_).head? = some l[at_] := by
  rw [List.head?_drop, List.getElem?_eq_getElem h]

set_option maxHeartbeats 2000000 in
set_option maxRecDepth 100000 in
theorem end_letter (b off at_ c : Nat) (l : List UInt8) (w : World) (hc : ∀ k (hk : k < l.length), w.cell? ⟨b, off + k, none⟩ = some (.int .u8 (l[k].toNat : Int))) (hl : l.length ≤ 20000) (hat : at_ < l.length) (hlet : isLetter ((l[at_].toNat : Nat) : Int) = true) :
    Calls Tryd.prog 35 #[.slice (some ⟨b, off, none⟩) l.length c, .int .i64 at_] w fun e w' => e = .returned (.int .i64 ((at_ + lead isNamed (l.drop at_) : Nat) : Int)) ∧ w' = w := by
  have hL := rletter_any ((l[at_].toNat : Nat) : Int) w
  rw [hlet] at hL
  have hcell := hc at_ hat
  have h255 : (l[at_]).toNat < 256 := UInt8.toNat_lt _
  have hnm : isNamed ((l[at_].toNat : Nat) : Int) = true := by unfold isNamed; rw [hlet]; rfl
  have HNM := Lib.hid hnm
  have HC := Lib.hid hc
  have HLE := Lib.hid hL
  have HLET := Lib.hid hlet
  clear hL hlet hnm hc
  go_enter Tryd.func35, Tryd.ntmps35
  go_wp2_with (first | (go_at_call 33; refine HLE.out.mono ?_; rintro e w ⟨rfl, rfl⟩))
  clear hcell
  go_loop [5] (fun i => ∃ k : Nat, at_ < k ∧ k ≤ l.length ∧ i = .int .i64 k ∧ Hid (∀ i (hi : i < l.length), at_ ≤ i → i < k → isNamed ((l[i].toNat : Nat) : Int) = true)) (fun i => l.length - (intOf i).toNat)
  case atStart =>
    refine ⟨at_ + 1, by omega, by omega, by go_num, fun i hi h1 h2 => ?_⟩
    obtain rfl : i = at_ := by omega
    exact HNM.out
  case round =>
    obtain ⟨k, hk0, hk, rfl, hall⟩ := hrel
    by_cases hlt : k < l.length
    · have hcell := HC.out k hlt
      have hk255 : (l[k]).toNat < 256 := UInt8.toNat_lt _
      have hLk := rletter_any ((l[k].toNat : Nat) : Int) w
      have hDk := rdigit_any ((l[k].toNat : Nat) : Int) w
      have hE : isNamed ((l[k].toNat : Nat) : Int) = (isLetter ((l[k].toNat : Nat) : Int) || isDigit ((l[k].toNat : Nat) : Int)) := rfl
      cases h1 : isLetter ((l[k].toNat : Nat) : Int)
      · rw [h1] at hLk hE
        have H1 := Lib.hid h1
        have HLk := Lib.hid hLk
        clear h1 hLk
        cases h2 : isDigit ((l[k].toNat : Nat) : Int)
        · rw [h2] at hDk hE
          have H2 := Lib.hid h2
          have HDk := Lib.hid hDk
          have HE := Lib.hid hE
          clear h2 hDk hE
          go_wp2_with (first | (go_at_call 33; refine HLk.out.mono ?_; rintro e w ⟨rfl, rfl⟩) | (go_at_call 34; refine HDk.out.mono ?_; rintro e w ⟨rfl, rfl⟩))
          go_ret
          refine ⟨ret_int ?_, rfl⟩
          obtain ⟨j, rfl⟩ : ∃ j, k = at_ + j := ⟨k - at_, by omega⟩
          rw [lead_drop_stop hlt (fun i hi h1 h2 => hall i hi h1 h2) HE.out]
        · rw [h2] at hDk hE
          have H2 := Lib.hid h2
          have HDk := Lib.hid hDk
          have HE := Lib.hid hE
          clear h2 hDk hE
          go_wp2_with (first | (go_at_call 33; refine HLk.out.mono ?_; rintro e w ⟨rfl, rfl⟩) | (go_at_call 34; refine HDk.out.mono ?_; rintro e w ⟨rfl, rfl⟩))
          go_round
          case rel =>
            refine ⟨k + 1, by omega, by omega, by go_num, fun i hi h1 h2 => ?_⟩
            by_cases e : i = k
            · subst e; exact HE.out
            · exact hall i hi h1 (by omega)
          case measure => simp [intOf]; omega
      · rw [h1] at hLk hE
        have H1 := Lib.hid h1
        have HLk := Lib.hid hLk
        have HE := Lib.hid hE
        clear h1 hLk hE hDk
        go_wp2_with (first | (go_at_call 33; refine HLk.out.mono ?_; rintro e w ⟨rfl, rfl⟩))
        go_round
        case rel =>
          refine ⟨k + 1, by omega, by omega, by go_num, fun i hi h1 h2 => ?_⟩
          by_cases e : i = k
          · subst e; exact HE.out
          · exact hall i hi h1 (by omega)
        case measure => simp [intOf]; omega
    · obtain rfl : k = l.length := by omega
      go_wp2
      go_ret
      refine ⟨ret_int ?_, rfl⟩
      rw [lead_drop_all (fun i hi h1 => hall i hi h1 hi)]
      omega

set_option maxHeartbeats 2000000 in
set_option maxRecDepth 100000 in
theorem end_digit (b off at_ c : Nat) (l : List UInt8) (w : World) (hc : ∀ k (hk : k < l.length), w.cell? ⟨b, off + k, none⟩ = some (.int .u8 (l[k].toNat : Int))) (hl : l.length ≤ 20000) (hat : at_ < l.length) (hlet : isLetter ((l[at_].toNat : Nat) : Int) = false) (hdig : isDigit ((l[at_].toNat : Nat) : Int) = true) :
    Calls Tryd.prog 35 #[.slice (some ⟨b, off, none⟩) l.length c, .int .i64 at_] w fun e w' => e = .returned (.int .i64 ((at_ + lead isDigit (l.drop at_) : Nat) : Int)) ∧ w' = w := by
  have hL := rletter_any ((l[at_].toNat : Nat) : Int) w
  have hD := rdigit_any ((l[at_].toNat : Nat) : Int) w
  rw [hlet] at hL
  rw [hdig] at hD
  have hcell := hc at_ hat
  have h255 : (l[at_]).toNat < 256 := UInt8.toNat_lt _
  have HNM := Lib.hid hdig
  have HC := Lib.hid hc
  have HLE := Lib.hid hL
  have HDE := Lib.hid hD
  have HLET := Lib.hid hlet
  clear hL hlet hdig hc hD
  go_enter Tryd.func35, Tryd.ntmps35
  go_wp2_with (first | (go_at_call 33; refine HLE.out.mono ?_; rintro e w ⟨rfl, rfl⟩) | (go_at_call 34; refine HDE.out.mono ?_; rintro e w ⟨rfl, rfl⟩))
  clear hcell
  go_loop [5] (fun i => ∃ k : Nat, at_ < k ∧ k ≤ l.length ∧ i = .int .i64 k ∧ Hid (∀ i (hi : i < l.length), at_ ≤ i → i < k → isDigit ((l[i].toNat : Nat) : Int) = true)) (fun i => l.length - (intOf i).toNat)
  case atStart =>
    refine ⟨at_ + 1, by omega, by omega, by go_num, fun i hi h1 h2 => ?_⟩
    obtain rfl : i = at_ := by omega
    exact HNM.out
  case round =>
    obtain ⟨k, hk0, hk, rfl, hall⟩ := hrel
    by_cases hlt : k < l.length
    · have hcell := HC.out k hlt
      have hk255 : (l[k]).toNat < 256 := UInt8.toNat_lt _
      have hDk := rdigit_any ((l[k].toNat : Nat) : Int) w
      cases h2 : isDigit ((l[k].toNat : Nat) : Int)
      · rw [h2] at hDk
        have HE := Lib.hid h2
        have HDk := Lib.hid hDk
        clear h2 hDk
        go_wp2_with (first | (go_at_call 34; refine HDk.out.mono ?_; rintro e w ⟨rfl, rfl⟩))
        go_ret
        refine ⟨ret_int ?_, rfl⟩
        obtain ⟨j, rfl⟩ : ∃ j, k = at_ + j := ⟨k - at_, by omega⟩
        rw [lead_drop_stop hlt (fun i hi h1 h2 => hall i hi h1 h2) HE.out]
      · rw [h2] at hDk
        have HE := Lib.hid h2
        have HDk := Lib.hid hDk
        clear h2 hDk
        go_wp2_with (first | (go_at_call 34; refine HDk.out.mono ?_; rintro e w ⟨rfl, rfl⟩))
        go_round
        case rel =>
          refine ⟨k + 1, by omega, by omega, by go_num, fun i hi h1 h2 => ?_⟩
          by_cases e : i = k
          · subst e; exact HE.out
          · exact hall i hi h1 (by omega)
        case measure => simp [intOf]; omega
    · obtain rfl : k = l.length := by omega
      go_wp2
      go_ret
      refine ⟨ret_int ?_, rfl⟩
      rw [lead_drop_all (fun i hi h1 => hall i hi h1 hi)]
      omega

set_option maxHeartbeats 2000000 in
set_option maxRecDepth 100000 in
theorem end_sign (b off at_ c : Nat) (l : List UInt8) (w : World) (hc : ∀ k (hk : k < l.length), w.cell? ⟨b, off + k, none⟩ = some (.int .u8 (l[k].toNat : Int))) (hl : l.length ≤ 20000) (hcap : l.length ≤ c) (hat : at_ < l.length) (hlet : isLetter ((l[at_].toNat : Nat) : Int) = false) (hdig : isDigit ((l[at_].toNat : Nat) : Int) = false) :
    Calls Tryd.prog 35 #[.slice (some ⟨b, off, none⟩) l.length c, .int .i64 at_] w fun e w' => e = .returned (.int .i64 ((at_ + (if 1 < (l.drop at_).length ∧ isSign (bytesOf ((l.drop at_).take 2)) = true then 2 else 1) : Nat) : Int)) ∧ w' = w := by
  have hL := rletter_any ((l[at_].toNat : Nat) : Int) w
  have hD := rdigit_any ((l[at_].toNat : Nat) : Int) w
  rw [hlet] at hL
  rw [hdig] at hD
  have hcell := hc at_ hat
  have h255 : (l[at_]).toNat < 256 := UInt8.toNat_lt _
  have HLE := Lib.hid hL
  have HDE := Lib.hid hD
  have HLET := Lib.hid hlet
  have HDIG := Lib.hid hdig
  have hdl : (l.drop at_).length = l.length - at_ := List.length_drop
  rw [hdl]
  by_cases h1 : at_ + 1 < l.length
  · have hp : 1 < l.length - at_ := by omega
    have hcv : (convert 27 9 (.slice (some ⟨b, off + at_, none⟩) (at_ + 1 + 1 - at_) (c - at_))).run Tryd.prog w = .ok (.string (bytesOf ((l.drop at_).take 2))) w := by
      have := convert_row (A := some ⟨b, off + at_, none⟩) (l := (l.drop at_).take 2) (w := w) (c - at_) (fun k hk => by
        have hk' : k < 2 ∧ at_ + k < l.length := by simp at hk; omega
        refine ⟨b, off + at_, rfl, World.block_lt_of_cell? w _ hcell, ?_⟩
        have := hc (at_ + k) hk'.2
        rw [List.getElem_take, List.getElem_drop, Nat.add_assoc]
        exact this)
      have e : ((l.drop at_).take 2).length = at_ + 1 + 1 - at_ := by simp; omega
      rw [e] at this
      exact this
    have hsg := fun w => rsign_any (bytesOf ((l.drop at_).take 2)) w
    have HC := Lib.hid hc
    clear hc hL hD hlet hdig hdl
    cases hs : isSign (bytesOf ((l.drop at_).take 2))
    all_goals
      rw [hs] at hsg
      have HSG := Lib.hid hsg
      have HS := Lib.hid hs
      obtain ⟨r, hr⟩ : ∃ r : Nat, (if 1 < l.length - at_ ∧ isSign (bytesOf ((l.drop at_).take 2)) = true then 2 else 1) = r := ⟨_, rfl⟩
      rw [hs] at hr
      rw [hr]
      have HR := Lib.hid hr
      clear hsg hs hr
      go_enter Tryd.func35, Tryd.ntmps35
      go_wp2_with (first | (go_at_call 33; refine HLE.out.mono ?_; rintro e w ⟨rfl, rfl⟩) | (go_at_call 34; refine HDE.out.mono ?_; rintro e w ⟨rfl, rfl⟩) | (go_at_call 17; refine (HSG.out _).mono ?_; rintro e w ⟨rfl, rfl⟩))
      go_ret
      refine ⟨ret_int ?_, rfl⟩
      have hr := HR.out
      simp [hp] at hr
      subst hr
      first | rfl | omega
  · have hp : ¬ 1 < l.length - at_ := by omega
    clear hc hL hD hlet hdig hdl
    go_enter Tryd.func35, Tryd.ntmps35
    go_wp2_with (first | (go_at_call 33; refine HLE.out.mono ?_; rintro e w ⟨rfl, rfl⟩) | (go_at_call 34; refine HDE.out.mono ?_; rintro e w ⟨rfl, rfl⟩))
    go_ret
    refine ⟨ret_int ?_, rfl⟩
    simp

theorem end_any (b off at_ c : Nat) (l : List UInt8) (w : World) (hc : ∀ k (hk : k < l.length), w.cell? ⟨b, off + k, none⟩ = some (.int .u8 (l[k].toNat : Int))) (hl : l.length ≤ 20000) (hcap : l.length ≤ c) (hat : at_ < l.length) :
    Calls Tryd.prog 35 #[.slice (some ⟨b, off, none⟩) l.length c, .int .i64 at_] w fun e w' => e = .returned (.int .i64 ((at_ + endLen (l.drop at_) : Nat) : Int)) ∧ w' = w := by
  have hh := head_drop hat
  have hl2 : headLetter (l.drop at_) = isLetter ((l[at_].toNat : Nat) : Int) := by unfold headLetter; rw [hh]; rfl
  have hd2 : (l.drop at_).head?.any (fun c => isDigit (c.toNat : Int)) = isDigit ((l[at_].toNat : Nat) : Int) := by rw [hh]; rfl
  unfold endLen
  rw [hl2, hd2]
  cases h1 : isLetter ((l[at_].toNat : Nat) : Int)
  · cases h2 : isDigit ((l[at_].toNat : Nat) : Int)
    · have := end_sign b off at_ c l w hc hl hcap hat h1 h2
      simpa using this
    · have := end_digit b off at_ c l w hc hl hat h1 h2
      simpa using this
  · have := end_letter b off at_ c l w hc hl hat h1
    simpa using this
end Go.Proofs.YtjfoinikdifgmaaDoor
