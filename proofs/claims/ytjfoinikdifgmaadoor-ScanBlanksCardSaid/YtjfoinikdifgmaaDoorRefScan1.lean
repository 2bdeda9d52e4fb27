/- The walks of dispatcherref01's Number and Of. -/
import Derived.Test.YtjfoinikdifgmaaDoorScan4
import Derived.Test.YtjfoinikdifgmaaDoorNum
import Derived.Test.YtjfoinikdifgmaaDoorTok
namespace Go.Proofs.YtjfoinikdifgmaaDoor
open Go.RowKit

def isNumber (l : List UInt8) : Bool := !l.isEmpty && l.all (fun c => isDigit (c.toNat : Int)) && numOk l
def numberVal (l : List UInt8) : Int := if isNumber l then (valOf l : Int) else 0
theorem isNumber_long {l : List UInt8} (h : 18 < l.length) : isNumber l = false := by
  unfold isNumber numOk
  have : decide (l.length ≤ 18) = false := by simp; omega
  rw [this]; simp
theorem digits_of {l : List UInt8} (h : ∀ j (hj : j < l.length), isDigit ((l[j].toNat : Nat) : Int) = true) : l.all (fun c => isDigit (c.toNat : Int)) = true ∧ allDigits l := by
  have h1 : ∀ c ∈ l, isDigit (c.toNat : Int) = true := fun c hc => by
    obtain ⟨j, hj, rfl⟩ := List.mem_iff_getElem.1 hc
    exact h j hj
  refine ⟨List.all_eq_true.2 h1, fun c hc => ?_⟩
  have := h1 c hc
  unfold isDigit at this
  simp at this
  omega
theorem not_all {l : List UInt8} {k : Nat} (hk : k < l.length) (h : isDigit ((l[k].toNat : Nat) : Int) = false) : isNumber l = false := by
  unfold isNumber
  have : l.all (fun c => isDigit (c.toNat : Int)) = false := by
    rw [← Bool.not_eq_true, List.all_eq_true]
    intro hall
    have := hall l[k] (List.getElem_mem hk)
    rw [h] at this
    cases this
  rw [this]; simp

set_option maxHeartbeats 2000000 in
set_option maxRecDepth 100000 in
theorem rnumber_any (s : ByteArray) (w : World) (hs : s.size ≤ 9223372036854775807) :
    Calls Tryd.prog 45 #[.string s] w fun e w' => e = .returned (.tuple #[.int .i64 (numberVal s.data.toList), .bool (isNumber s.data.toList)]) ∧ w' = w := by
  have hlen : s.data.toList.length = s.size := by simp
  by_cases h0 : 0 < s.size
  · by_cases h18 : s.size ≤ 18
    · have h255 : (s[0]'h0).toNat < 256 := UInt8.toNat_lt _
      have hhead : s.data.toList.head? = some (s[0]'h0) := by
        rw [List.head?_eq_getElem?, List.getElem?_eq_getElem (by rw [hlen]; exact h0)]
        rfl
      have hne : s.data.toList.isEmpty = false := by
        cases hh : s.data.toList with
        | nil => rw [hh] at hlen; simp at hlen; omega
        | cons => rfl
      by_cases hz : (s[0]'h0).toNat = 48 ∧ 1 < s.size
      · have hno : isNumber s.data.toList = false := by
          unfold isNumber numOk
          rw [hhead, hlen]
          have : decide (s.size = 1) = false := by simp; omega
          simp [hz.1, this]
        have hv : numberVal s.data.toList = 0 := by unfold numberVal; rw [hno]; rfl
        have HNO := Lib.hid hno
        have HV := Lib.hid hv
        have h1 : (((s[0]'h0).toNat : Int) == 48) = true := by simp; omega
        have h2 := hz.2
        clear hno hv hz hne hhead hlen
        go_enter Tryd.func45, Tryd.ntmps45
        go_wp2_with fail
        go_ret2
        refine ⟨?_, rfl⟩
        rw [HNO.out, HV.out]; rfl
      · have hok : numOk s.data.toList = true := by
          unfold numOk
          rw [hhead, hlen]
          by_cases h1 : s.size = 1
          · simp [h1]
          · have : ¬ (s[0]'h0).toNat = 48 := fun e => hz ⟨e, by omega⟩
            simp [this, h18]
        have HOK := Lib.hid hok
        have HLEN := Lib.hid hlen
        have HNE := Lib.hid hne
        have main : ∀ (K : World → Prop), True := fun _ => trivial
        clear hok hhead hne main
        by_cases hz0 : (s[0]'h0).toNat = 48
        all_goals
          first
          | (have h1 : (((s[0]'h0).toNat : Int) == 48) = true := by (simp; omega)
             have h2 : ¬ 1 < s.size := fun h => hz ⟨hz0, h⟩
             have HZ := Lib.hid h1)
          | (have h1 : (((s[0]'h0).toNat : Int) == 48) = false := by (simp; omega))
          clear hz hz0 hlen
          go_enter Tryd.func45, Tryd.ntmps45
          go_wp2_with fail
          go_loop [4, 5] (fun n i => ∃ k : Nat, k ≤ s.size ∧ i = .int .i64 k ∧ n = .int .i64 (valOf (s.data.toList.take k)) ∧ Hid (∀ j (hj : j < s.data.toList.length), j < k → isDigit ((s.data.toList[j].toNat : Nat) : Int) = true)) (fun _ i => s.size - (intOf i).toNat)
          case atStart => exact ⟨0, by omega, rfl, rfl, fun j _ hj => by omega⟩
          case round =>
            obtain ⟨k, hk, rfl, rfl, hall⟩ := hrel
            by_cases hlt : k < s.size
            · have hk255 : (s[k]'hlt).toNat < 256 := UInt8.toNat_lt _
              have hDk := rdigit_any ((s[k]'hlt).toNat : Int) w
              have hE : ∀ (hj : k < s.data.toList.length), isDigit ((s.data.toList[k].toNat : Nat) : Int) = isDigit ((s[k]'hlt).toNat : Int) := fun _ => rfl
              have hlk : k < s.data.toList.length := by rw [HLEN.out]; exact hlt
              cases h2 : isDigit ((s[k]'hlt).toNat : Int)
              · rw [h2] at hDk hE
                have H2 := Lib.hid h2
                have HDk := Lib.hid hDk
                have hno : isNumber s.data.toList = false := not_all hlk (hE hlk)
                have hv : numberVal s.data.toList = 0 := by unfold numberVal; rw [hno]; rfl
                have HNO := Lib.hid hno
                have HV := Lib.hid hv
                clear h2 hDk hE hno hv
                go_wp2_with (first | (go_at_call 34; refine HDk.out.mono ?_; rintro e w' ⟨rfl, rfl⟩))
                go_ret2
                refine ⟨?_, rfl⟩
                rw [HNO.out, HV.out]; rfl
              · have hr : 48 ≤ (s[k]'hlt).toNat ∧ (s[k]'hlt).toNat ≤ 57 := by
                  unfold isDigit at h2
                  simp at h2
                  omega
                have hdt : allDigits (s.data.toList.take k) := (digits_of (l := s.data.toList.take k) (fun j hj => by
                  rw [List.getElem_take]
                  exact hall j (by simp at hj; omega) (by simp at hj; omega))).2
                have hvb : valOf (s.data.toList.take k) < 100000000000000000 := by
                  have h5 := valOf_lt hdt
                  have h6 : (s.data.toList.take k).length = k := by rw [List.length_take, HLEN.out]; omega
                  rw [h6] at h5
                  have h7 : 10 ^ k ≤ 10 ^ 17 := Nat.pow_le_pow_right (by omega) (by omega)
                  omega
                have hstep : valOf (s.data.toList.take (k + 1)) = valOf (s.data.toList.take k) * 10 + ((s[k]'hlt).toNat - 48) := by
                  rw [List.take_succ_eq_append_getElem hlk, valOf_snoc]
                  rfl
                rw [h2] at hDk hE
                have HST := Lib.hid hstep
                have H2 := Lib.hid h2
                have HDk := Lib.hid hDk
                have HE := Lib.hid hE
                have hr1 := hr.1
                have hr2 := hr.2
                clear h2 hDk hE hdt hr hstep
                go_wp2_with (first | (go_at_call 34; refine HDk.out.mono ?_; rintro e w' ⟨rfl, rfl⟩))
                go_round
                case rel =>
                  refine ⟨k + 1, by omega, by go_num, ?_, fun j hj hjk => ?_⟩
                  · rw [HST.out]
                    congr 1
                    omega
                  · by_cases e : j = k
                    · subst e; exact HE.out hj
                    · exact hall j hj (by omega)
                case measure => simp [intOf]; omega
            · obtain rfl : k = s.size := by omega
              have hd := digits_of (l := s.data.toList) (fun j hj => hall j hj (by have := HLEN.out; omega))
              have hyes : isNumber s.data.toList = true := by unfold isNumber; rw [HNE.out, hd.1, HOK.out]; rfl
              have hv : numberVal s.data.toList = (valOf s.data.toList : Int) := by unfold numberVal; rw [hyes]; rfl
              have HY := Lib.hid hyes
              have HV := Lib.hid hv
              clear hyes hv hd
              go_wp2_with fail
              go_ret2
              refine ⟨?_, rfl⟩
              have e : List.take s.size s.data.toList = s.data.toList := by rw [← HLEN.out, List.take_length]
              rw [HY.out, HV.out]
              exact congrArg (fun l => Ending.returned (.tuple #[.int .i64 (valOf l : Int), .bool true])) e
    · have hno : isNumber s.data.toList = false := isNumber_long (by rw [hlen]; omega)
      have hv : numberVal s.data.toList = 0 := by unfold numberVal; rw [hno]; rfl
      have HNO := Lib.hid hno
      have HV := Lib.hid hv
      clear hno hv hlen
      go_enter Tryd.func45, Tryd.ntmps45
      go_wp2_with fail
      go_ret2
      refine ⟨?_, rfl⟩
      rw [HNO.out, HV.out]; rfl
  · have hz : s.size = 0 := by omega
    have hsz : s = ByteArray.empty := by simpa using hz
    subst hsz
    clear hz h0 hs hlen
    go_enter Tryd.func45, Tryd.ntmps45
    go_wp2_with fail
    go_ret2
    exact ⟨rfl, rfl⟩

/-- The word that a whole text is; of no kind: it is none. -/
def ofKind (l : List UInt8) : Int := if isWord (bytesOf l) then 3 else if isName (bytesOf l) then 1 else if isNumber l then 2 else if isSign (bytesOf l) then 4 else 0
def ofNum (l : List UInt8) : Int := if isWord (bytesOf l) then 0 else if isName (bytesOf l) then 0 else numberVal l
def ofTok (l : List UInt8) : Tok := ⟨ofKind l, bytesOf l, ofNum l, 0, 0⟩
theorem bytesOf_self (s : ByteArray) : bytesOf s.data.toList = s := by simp [bytesOf]

def OfPost (t : Tok) (w : World) (e : Ending) (w' : World) : Prop := e = .returned (.agg #[.int .u8 t.kind, .string t.text, .int .i64 t.num, .int .i64 t.line, .int .i64 t.col]) ∧ Below w.heap.size w w'
end Go.Proofs.YtjfoinikdifgmaaDoor
