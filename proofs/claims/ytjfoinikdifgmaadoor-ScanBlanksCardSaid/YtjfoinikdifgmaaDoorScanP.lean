/- Plain words of chapter 01: what letters, digits, words, signs, names are; how many bytes of a kind a text begins with. -/
import Derived.Lib.SlicesS
namespace Go.Proofs.YtjfoinikdifgmaaDoor

def scanWords : List ByteArray := [
  ⟨#[105, 110, 116]⟩,
  ⟨#[105, 102]⟩,
  ⟨#[101, 108, 115, 101]⟩,
  ⟨#[119, 104, 105, 108, 101]⟩,
  ⟨#[102, 111, 114]⟩,
  ⟨#[97, 115, 115, 101, 114, 116]⟩,
  ⟨#[115, 116, 111, 112]⟩,
  ⟨#[114, 97, 110, 107]⟩,
  ⟨#[115, 105, 122, 101]⟩,
  ⟨#[97, 110, 121]⟩,
  ⟨#[118, 97, 108, 117, 101]⟩,
  ⟨#[112, 101, 101, 114]⟩,
  ⟨#[116, 97, 103]⟩,
  ⟨#[102, 108, 97, 103]⟩,
  ⟨#[105, 110, 100, 101, 120]⟩,
  ⟨#[114, 101, 113]⟩,
  ⟨#[99, 111, 109, 109]⟩,
  ⟨#[114, 111, 119]⟩,
  ⟨#[115, 117, 109]⟩,
  ⟨#[109, 97, 120]⟩,
  ⟨#[109, 105, 110]⟩,
  ⟨#[115, 101, 110, 100]⟩,
  ⟨#[115, 115, 101, 110, 100]⟩,
  ⟨#[98, 115, 101, 110, 100]⟩,
  ⟨#[105, 115, 101, 110, 100]⟩,
  ⟨#[105, 115, 115, 101, 110, 100]⟩,
  ⟨#[114, 101, 99, 118]⟩,
  ⟨#[105, 114, 101, 99, 118]⟩,
  ⟨#[112, 114, 111, 98, 101]⟩,
  ⟨#[105, 112, 114, 111, 98, 101]⟩,
  ⟨#[119, 97, 105, 116]⟩,
  ⟨#[119, 97, 105, 116, 97, 108, 108]⟩,
  ⟨#[119, 97, 105, 116, 97, 110, 121]⟩,
  ⟨#[116, 101, 115, 116]⟩,
  ⟨#[116, 101, 115, 116, 97, 110, 121]⟩,
  ⟨#[98, 97, 114, 114, 105, 101, 114]⟩,
  ⟨#[98, 99, 97, 115, 116]⟩,
  ⟨#[114, 101, 100, 117, 99, 101]⟩,
  ⟨#[97, 108, 108, 114, 101, 100, 117, 99, 101]⟩,
  ⟨#[103, 97, 116, 104, 101, 114]⟩,
  ⟨#[100, 117, 112]⟩,
  ⟨#[115, 112, 108, 105, 116]⟩,
  ⟨#[102, 114, 101, 101]⟩]
def scanSigns : List ByteArray := [
  ⟨#[60, 61]⟩,
  ⟨#[62, 61]⟩,
  ⟨#[61, 61]⟩,
  ⟨#[33, 61]⟩,
  ⟨#[38, 38]⟩,
  ⟨#[124, 124]⟩,
  ⟨#[40]⟩,
  ⟨#[41]⟩,
  ⟨#[123]⟩,
  ⟨#[125]⟩,
  ⟨#[91]⟩,
  ⟨#[93]⟩,
  ⟨#[59]⟩,
  ⟨#[44]⟩,
  ⟨#[61]⟩,
  ⟨#[43]⟩,
  ⟨#[45]⟩,
  ⟨#[42]⟩,
  ⟨#[47]⟩,
  ⟨#[37]⟩,
  ⟨#[60]⟩,
  ⟨#[62]⟩,
  ⟨#[33]⟩]
theorem scanWords_len : scanWords.length = 43 := rfl
theorem scanSigns_len : scanSigns.length = 23 := rfl
def isLetter (c : Int) : Bool := decide (97 ≤ c) && decide (c ≤ 122)
def isDigit (c : Int) : Bool := decide (48 ≤ c) && decide (c ≤ 57)
def isNamed (c : Int) : Bool := isLetter c || isDigit c
def isBlank (c : Int) : Bool := c == 32 || c == 9 || c == 13 || c == 10
theorem isLetter_high {c : Int} (h : 128 ≤ c) : isLetter c = false := by unfold isLetter; simp; omega
theorem isDigit_high {c : Int} (h : 128 ≤ c) : isDigit c = false := by unfold isDigit; simp; omega
theorem isNamed_high {c : Int} (h : 128 ≤ c) : isNamed c = false := by unfold isNamed; rw [isLetter_high h, isDigit_high h]; rfl
theorem isBlank_high {c : Int} (h : 128 ≤ c) : isBlank c = false := by unfold isBlank; simp; omega
/-- How many bytes of a kind a text begins with. -/
def lead (p : Int → Bool) (l : List UInt8) : Nat := (l.takeWhile fun c => p (c.toNat : Int)).length
theorem lead_le (p : Int → Bool) (l : List UInt8) : lead p l ≤ l.length := (List.takeWhile_sublist _).length_le
theorem lead_nil (p : Int → Bool) : lead p [] = 0 := rfl
theorem lead_cons_true {p : Int → Bool} {c : UInt8} {l : List UInt8} (h : p (c.toNat : Int) = true) : lead p (c :: l) = lead p l + 1 := by
  unfold lead; rw [List.takeWhile_cons]; simp [h]
theorem lead_cons_false {p : Int → Bool} {c : UInt8} {l : List UInt8} (h : p (c.toNat : Int) = false) : lead p (c :: l) = 0 := by
  unfold lead; rw [List.takeWhile_cons]; simp [h]
theorem lead_all {p : Int → Bool} {l : List UInt8} (h : ∀ j (hj : j < l.length), p ((l[j].toNat : Nat) : Int) = true) : lead p l = l.length := by
  induction l with
  | nil => rfl
  | cons c l ih =>
    rw [lead_cons_true (c := c) (l := l) (h 0 (by simp)), ih (fun j hj => h (j + 1) (by simpa using hj))]
    simp
theorem lead_stop {p : Int → Bool} : ∀ {l : List UInt8} {n : Nat} (hn : n < l.length), (∀ j (hj : j < n), p ((l[j].toNat : Nat) : Int) = true) → p ((l[n].toNat : Nat) : Int) = false → lead p l = n
  | [], n, hn, _, _ => absurd hn (Nat.not_lt_zero _)
  | c :: l, 0, _, _, h => lead_cons_false h
  | c :: l, n + 1, hn, ha, h => by
    rw [lead_cons_true (c := c) (l := l) (ha 0 (by omega)), lead_stop (l := l) (n := n) (by simpa using hn) (fun j hj => ha (j + 1) (by omega)) h]
def isWord (s : ByteArray) : Bool := Lib.containsS scanWords s
def isSign (s : ByteArray) : Bool := Lib.containsS scanSigns s
/-- Whether a text is a name. -/
def isName (s : ByteArray) : Bool := decide (0 < s.size) && (lead isNamed s.data.toList == s.size) && (s.data.toList.head?.any fun c => isLetter (c.toNat : Int)) && decide (s.size ≤ 12) && !isWord s
end Go.Proofs.YtjfoinikdifgmaaDoor
