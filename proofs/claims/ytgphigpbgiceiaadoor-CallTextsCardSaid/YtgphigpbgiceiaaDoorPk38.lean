/- The numbers of a canonical text as the reference reads them, plainly. · How the reference's Parse ends, plainly. · The reduction that the reference's Parse finds, plainly. -/
import Derived.Test.YtgphigpbgiceiaaDoorPk36
import Derived.Test.YtgphigpbgiceiaaDoorRNum
import Derived.Test.YtgphigpbgiceiaaDoorClParK
namespace Go.Proofs.YtgphigpbgiceiaaDoor
set_option linter.unusedVariables false
set_option linter.unusedSimpArgs false

theorem numSaid_itoa {v n : Int} {b : Bool} (hv : I64 v) (h : NumSaid (Lib.itoa v) n b) : b = true ∧ Lib.itoa n = Lib.itoa v := by
  cases b with
  | true => exact ⟨rfl, h.2.1 rfl⟩
  | false => exact absurd (show NumIs (Lib.itoa v) v from ⟨hv, rfl⟩) (h.2.2 rfl v)
theorem itoa_inj16 {a b : Int} (ha : I64 a) (hb : I64 b) (h : Lib.itoa a = Lib.itoa b) : a = b := by
  have e1 := intV_itoa a ha.1 ha.2
  have e2 := intV_itoa b hb.1 hb.2
  rw [h, e2] at e1
  exact e1.symm
theorem nums_inj : ∀ (ns l : List Int), (∀ n ∈ ns, I64 n) → (∀ n ∈ l, I64 n) → l.map Lib.itoa = ns.map Lib.itoa → l = ns
  | [], [], _, _, _ => rfl
  | [], _ :: _, _, _, h => by simp at h
  | _ :: _, [], _, _, h => by simp at h
  | n :: ns, m :: l, h1, h2, h => by
    rw [List.map_cons, List.map_cons] at h
    injection h with h3 h4
    rw [itoa_inj16 (h2 m List.mem_cons_self) (h1 n List.mem_cons_self) h3, nums_inj ns l (fun x hx => h1 x (List.mem_cons_of_mem _ hx)) (fun x hx => h2 x (List.mem_cons_of_mem _ hx)) h4]
/-- The numbers read are the canonical call's own. -/
theorem canon_nums {s : List UInt8} {d : Cl} (hd : CanonS s d) {l : List Int} (hl : ∀ n ∈ l, I64 n) (h : l.map Lib.itoa = (clNums d ((usesF d.kind).getD [])).map Lib.itoa) : l = clNums d ((usesF d.kind).getD []) :=
  nums_inj _ l (clNums_ok hd.1 _) hl h
/-- One of the numbers' texts is no number: there is no canonical call. -/
theorem canon_bad {s : List UInt8} {d : Cl} (hd : CanonS s d) {x : List UInt8} (hx : x ∈ (clNums d ((usesF d.kind).getD [])).map Lib.itoa) (h : ∀ v, ¬ NumIs x v) : False := by
  obtain ⟨v, hv, rfl⟩ := List.mem_map.1 hx
  exact h v ⟨clNums_ok hd.1 _ v hv, rfl⟩
end Go.Proofs.YtgphigpbgiceiaaDoor
namespace Go.Proofs.YtgphigpbgiceiaaDoor
set_option linter.unusedVariables false
set_option linter.unusedSimpArgs false

theorem parse_end_yes {s : ByteArray} {c : Cl} (he : errOfC c = 0) (ht : (⟨(textOfC c).toArray⟩ : ByteArray) = s) : textB c = true ∧ (⟨(clText c ((usesF c.kind).getD [])).toArray⟩ : ByteArray) = s := by
  have hb : textB c = true := by
    cases h : textB c with
    | true => rfl
    | false =>
      unfold errOfC at he
      rw [h] at he
      simp at he
  refine ⟨hb, ?_⟩
  unfold textOfC at ht
  rw [if_pos hb] at ht
  exact ht
theorem canon_of {s : ByteArray} {d : Cl} (h1 : d.Ok) (h2 : textB d = true) (h3 : (⟨(clText d ((usesF d.kind).getD [])).toArray⟩ : ByteArray) = s) : CanonS s.data.toList d := ⟨h1, h2, by rw [← h3]⟩
theorem parse_end_none {s : ByteArray} (h : ∀ d, ¬ CanonS s.data.toList d) : ∀ d : Cl, d.Ok → textB d = true → (⟨(clText d ((usesF d.kind).getD [])).toArray⟩ : ByteArray) ≠ s :=
  fun d h1 h2 h3 => h d (canon_of h1 h2 h3)
theorem parse_end_no {s : ByteArray} {c : Cl} (h : ∀ d, CanonS s.data.toList d → d = c) (hn : errOfC c ≠ 0 ∨ (⟨(textOfC c).toArray⟩ : ByteArray) ≠ s) : ∀ d : Cl, d.Ok → textB d = true → (⟨(clText d ((usesF d.kind).getD [])).toArray⟩ : ByteArray) ≠ s := by
  intro d h1 h2 h3
  have e := h d (canon_of h1 h2 h3)
  subst e
  rcases hn with hn | hn
  · apply hn
    unfold errOfC
    rw [if_pos h2]
  · apply hn
    unfold textOfC
    rw [if_pos h2]
    exact h3
end Go.Proofs.YtgphigpbgiceiaaDoor
namespace Go.Proofs.YtgphigpbgiceiaaDoor
set_option linter.unusedVariables false
set_option linter.unusedSimpArgs false

theorem redK_inj {a b : Int} (ha : 0 ≤ a ∧ a ≤ 2) (hb : 0 ≤ b ∧ b ≤ 2) (h : redK a = redK b) : a = b := by
  have h1 := (red_read a ha.1 ha.2).1
  have h2 := (red_read b hb.1 hb.2).1
  rw [h, h2] at h1
  exact h1.symm
/-- A kind that reduces: its last piece is the word of the canonical call's reduction, so the first reduction with that word is it. -/
theorem canon_red {s : List UInt8} {d : Cl} (hd : CanonS s d) (h9 : ((usesF d.kind).getD []).contains 9 = true) {op : Int} {x : List UInt8} (hx : (pieces d ((usesF d.kind).getD [])).getLast? = some x) (h0 : 0 ≤ op) (h : (op ≤ 2 ∧ redK op = x) ∨ (op = 3 ∧ ∀ n, 0 ≤ n → n ≤ 2 → redK n ≠ x)) : op = d.op := by
  obtain ⟨hs, ht, ho, h8⟩ := textB_parts hd.2.1
  have hl := (pieces_red d _ h9).1
  rw [hl] at hx
  have e := Option.some.inj hx
  have hop := hd.1.op
  rcases h with ⟨h1, h2⟩ | ⟨h1, h2⟩
  · exact redK_inj ⟨h0, h1⟩ ⟨hop.1, ho⟩ (h2.trans e.symm)
  · exact absurd e (h2 d.op hop.1 ho)
end Go.Proofs.YtgphigpbgiceiaaDoor
