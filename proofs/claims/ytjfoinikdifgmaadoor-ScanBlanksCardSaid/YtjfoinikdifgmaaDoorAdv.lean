/- Plain words: how line and column go on over bytes. -/
import Derived.Lib.LastIndexByte
import Derived.Lib.Bytealg
namespace Go.Proofs.YtjfoinikdifgmaaDoor

def adv : List UInt8 → Int → Int → Int × Int
  | [], a, b => (a, b)
  | c :: r, a, b => if c = 10 then adv r (a + 1) 1 else adv r a (b + 1)
theorem adv_append : ∀ (l m : List UInt8) (a b : Int), adv (l ++ m) a b = adv m (adv l a b).1 (adv l a b).2
  | [], _, _, _ => by simp [adv]
  | c :: r, m, a, b => by
    simp only [List.cons_append, adv]
    split
    · exact adv_append r m _ _
    · exact adv_append r m _ _
theorem adv_plain : ∀ (l : List UInt8) (a b : Int), (∀ c ∈ l, c ≠ 10) → adv l a b = (a, b + l.length)
  | [], _, _, _ => by simp [adv]
  | c :: r, a, b, h => by
    simp only [adv]
    rw [if_neg (h c (by simp)), adv_plain r a (b + 1) (fun x hx => h x (by simp [hx]))]
    simp only [List.length_cons, Prod.mk.injEq, true_and]
    omega
theorem adv_line : ∀ (l : List UInt8) (a b : Int), (adv l a b).1 = a + Lib.countByte l 10
  | [], _, _ => by simp [adv, Lib.countByte]
  | c :: r, a, b => by
    simp only [adv]
    by_cases h : c = 10
    · rw [if_pos h, adv_line r]
      simp only [Lib.countByte, List.count_cons, h, beq_self_eq_true, if_true]
      omega
    · rw [if_neg h, adv_line r]
      simp [Lib.countByte, h]
/-- Behind the last byte 10 the column is how many bytes there are from it on. -/
theorem adv_col (m r : List UInt8) (a b : Int) (h : ∀ c ∈ r, c ≠ 10) : (adv (m ++ 10 :: r) a b).2 = ((10 :: r : List UInt8).length : Int) := by
  rw [adv_append]
  simp only [adv, if_true]
  rw [adv_plain r _ _ h]
  simp only [List.length_cons]
  omega
theorem adv_bd : ∀ (l : List UInt8) (a b : Int), 0 ≤ a → 0 ≤ b → a ≤ (adv l a b).1 ∧ (adv l a b).1 ≤ a + l.length ∧ 0 ≤ (adv l a b).2 ∧ (adv l a b).2 ≤ b + l.length + 1
  | [], a, b, _, _ => by simp [adv]; omega
  | c :: r, a, b, h1, h2 => by
    simp only [adv, List.length_cons]
    split
    · have := adv_bd r (a + 1) 1 (by omega) (by omega)
      omega
    · have := adv_bd r a (b + 1) (by omega) (by omega)
      omega
theorem adv_bd1 : ∀ (l : List UInt8) (a b : Int), 1 ≤ a → 1 ≤ b → 1 ≤ (adv l a b).1 ∧ (adv l a b).1 ≤ a + l.length ∧ 1 ≤ (adv l a b).2 ∧ (adv l a b).2 ≤ b + l.length
  | [], a, b, _, _ => by simp [adv]; omega
  | c :: r, a, b, h1, h2 => by
    simp only [adv, List.length_cons]
    split
    · have := adv_bd1 r (a + 1) 1 (by omega) (by omega)
      omega
    · have := adv_bd1 r a (b + 1) (by omega) (by omega)
      omega
theorem countByte_zero {l : List UInt8} : Lib.countByte l 10 = 0 ↔ ∀ c ∈ l, c ≠ 10 := by
  unfold Lib.countByte
  rw [List.count_eq_zero]
  exact ⟨fun h c hc e => h (e ▸ hc), fun h hm => h 10 hm rfl⟩
/-- The last byte 10 of a text: ahead of it, behind it. -/
theorem last_split (g : ByteArray) (h : Lib.countByte g.data.toList 10 ≠ 0) : ∃ i : Nat, Lib.lastIndexByte g 10 = i ∧ i < g.size ∧ ∃ m r, g.data.toList = m ++ 10 :: r ∧ m.length = i ∧ ∀ c ∈ r, c ≠ 10 := by
  rcases Lib.lastIndexByte_spec g 10 with ⟨_, hn⟩ | ⟨i, hi, he, hc, hb⟩
  · exfalso
    apply h
    rw [countByte_zero]
    intro c hcm e
    obtain ⟨j, hj, rfl⟩ := List.mem_iff_getElem.1 hcm
    have hj' : j < g.size := by simpa using hj
    have := hn j hj'
    apply this
    rw [getElem!_pos g.data j hj']
    have e2 : g.data[j] = 10 := by simpa using e
    rw [e2]; rfl
  · have hi' : i < g.data.toList.length := by simpa using hi
    refine ⟨i, he, hi, g.data.toList.take i, g.data.toList.drop (i + 1), ?_, by simp; omega, ?_⟩
    · have e10 : g.data.toList[i] = 10 := by
        rw [getElem!_pos g.data i hi] at hc
        have h2 : (g.data[i]).toNat = 10 := by omega
        have : g.data[i] = 10 := UInt8.toNat_inj.1 (by rw [h2]; rfl)
        simpa using this
      rw [← e10, List.getElem_cons_drop, List.take_append_drop]
    · intro c hcm e
      obtain ⟨j, hj, rfl⟩ := List.mem_iff_getElem.1 hcm
      have hj' : i + 1 + j < g.size := by simp at hj; omega
      have := hb (i + 1 + j) (by omega) hj'
      apply this
      rw [getElem!_pos g.data _ hj']
      have e2 : g.data[i + 1 + j] = 10 := by simpa using e
      rw [e2]; rfl
end Go.Proofs.YtjfoinikdifgmaaDoor
