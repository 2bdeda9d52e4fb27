/- From a law's walk to its row, whatever its arguments are: it returns true, and below the heap's old size nothing has turned. · What call.Told asks of laid variables is laid. · How long a call's text is, plainly. -/
import Derived.Test.YtgphigpbgiceiaaGreatDoorRows
import Derived.ProofKit
import Derived.LaidMore
import Derived.ChangeOld
import Derived.Test.YtgphigpbgiceiaaGreatDoorCtRow
import Derived.Test.YtgphigpbgiceiaaGreatDoorLaid
import Derived.Lib.LaidTab
import Derived.LaidLaws
import Derived.Test.YtgphigpbgiceiaaGreatDoorTrimCls
namespace Go.Proofs.YtgphigpbgiceiaaGreatDoor
open Go.ChangeShapes Go.WideShapes Go.RowKit

theorem own : ownKnob Tryz.prog.godebug = none := by kernel_rfl
theorem laidOut : laidOutB Tryz.prog = true := by kernel_rfl

theorem trodAll_below {H : Type} {enc : TypeId × Value → H} {P : Program} (hl : laidOutB P = true) {W W' : World} (hb : Below W.heap.size W W') :
    ∀ {ts : List TypeId} {vs : List Value} {ds : List (DataW H)} {ps : List MemPlace}, (ts.all fun t => P.readableRec t && decide (t < P.types.size)) = true → DataW.TrodAll enc P W 0 (fun _ => true) true ts vs ds ps →
      DataW.TrodAll enc P W' 0 (fun b => decide (b < W.heap.size)) true ts vs ds ps
  | [], [], [], _, _, h => h
  | t :: ts, v :: vs, d :: ds, ps, hr, h => by
    have hlt := h.lt
    obtain ⟨p, q, h1, h2, e⟩ := h
    simp only [List.all_cons, Bool.and_eq_true, decide_eq_true_eq] at hr
    exact ⟨p, q, Below.trod hl hr.1.1 hr.1.2 h1 hb (fun x hx => hlt x (by rw [e]; simp [hx])), trodAll_below hl hb (by simpa using hr.2) h2, e⟩
  | [], [], _ :: _, _, _, h => h.elim
  | [], _ :: _, _, _, _, h => by cases ‹List (DataW H)› <;> exact h.elim
  | _ :: _, [], _, _, _, h => by cases ‹List (DataW H)› <;> exact h.elim
  | _ :: _, _ :: _, [], _, _, h => h.elim

/-- What a law's post wants of a walk that ends in Below. -/
theorem law_post {H : Type} {enc : TypeId × Value → H} {f : Func} {s : ChangeSpec} {tb : TypeId} {W W' : World} {args : Array Value} {ds gs : List (DataW H)} {before : List MemPlace}
    (hv : s.vars = []) (hr : f.resultTypes = #[tb]) (ht : Tryz.prog.underlying tb = some .bool) (hp : (f.params.toList.all fun t => Tryz.prog.readableRec t && decide (t < Tryz.prog.types.size)) = true)
    (hfn : (s.fn H (ds ++ gs)) = { results := [.lit (.bool true)], args := ds })
    (hW : DataW.Whole enc Tryz.prog f.params.toList s.vars false W args.toList ds gs before) (hb : Below W.heap.size W W') :
    s.post enc Tryz.prog f false true false false W args (.bool true) W' := by
  have hW' := hW
  obtain ⟨p, q, hA, hV, rfl, _, _⟩ := hW
  refine ⟨ds, gs, _, [], p, [], hW', ?_, ?_, ?_, hb.frame _, fun h => by cases h⟩
  · rw [hfn, hr]
    exact trodAll_mk1 (shut_bool ht true)
  · rw [hfn]
    exact trodAll_below laidOut hb hp hA
  · rw [hv, hfn]
    rfl
end Go.Proofs.YtgphigpbgiceiaaGreatDoor
namespace Go.Proofs.YtgphigpbgiceiaaGreatDoor
open Go.ChangeShapes Go.WideShapes Go.ChangeAt Go.RowKit Go.Sort

set_option maxRecDepth 100000 in
theorem ctTabs_of {W : World} {l : List (String × DataW Unit)} (hp : (l.filter fun x => x.2.handleName?.isSome) = []) (hL : laidMetH Tryz.prog l W)
    (h1 : ("strings.asciiSpace", Rows.laid_strings_asciiSpace) ∈ l) (h2 : ("internal/strconv.uint64pow10", Rows.laid_internal_strconv_uint64pow10) ∈ l) : CtTabs W where
  pow := by
    obtain ⟨g', t', cs, fuel, p, hg', ht', hv, hd⟩ := laidH_mem hp hL h2
    have hg : Tryz.prog.globalNamed "internal/strconv.uint64pow10" = some 8 := by kernel_rfl
    have ht : (Tryz.prog.globals[8]?).map (·.type) = some 153 := by kernel_rfl
    obtain rfl := Option.some.inj (hg.symm.trans hg')
    obtain rfl := Option.some.inj (ht.symm.trans ht')
    have e : (Rows.laid_internal_strconv_uint64pow10 : DataW Unit) = Lib.tabData .u64 Lib.pow10Tab := by rfl
    rw [e] at hd
    unfold Lib.TabIs
    rw [hv, ← Lib.cells_of_tab Tryz.underlying153 Tryz.underlying100 (by kernel_rfl) (by kernel_rfl) hd]
  spaces := by
    obtain ⟨g', t', cs, fuel, p, hg', ht', hv, hd⟩ := laidH_mem hp hL h1
    have hg : Tryz.prog.globalNamed "strings.asciiSpace" = some 3 := by kernel_rfl
    have ht : (Tryz.prog.globals[3]?).map (·.type) = some 88 := by kernel_rfl
    obtain rfl := Option.some.inj (hg.symm.trans hg')
    obtain rfl := Option.some.inj (ht.symm.trans ht')
    have e : (Rows.laid_strings_asciiSpace : DataW Unit) = Lib.tabData .u8 Lib.asciiSpaceTab := by rfl
    rw [e] at hd
    unfold Lib.TabIs
    rw [hv, ← Lib.cells_of_tab Tryz.underlying88 Tryz.underlying5 (by kernel_rfl) (by kernel_rfl) hd]
end Go.Proofs.YtgphigpbgiceiaaGreatDoor
namespace Go.Proofs.YtgphigpbgiceiaaGreatDoor
set_option linter.unusedVariables false
set_option linter.unusedSimpArgs false

theorem clNums_le8 {c : Cl} (hop : 0 ≤ c.op ∧ c.op ≤ 255) (h : textB c = true) : (clNums c ((usesF c.kind).getD [])).length ≤ 8 := by
  obtain ⟨h1, h2, h3, h4⟩ := textB_parts h
  rcases trim_cls c hop with ⟨hk, hu, hT⟩ | ⟨hk, hu, hT⟩ | ⟨hk, hu, hT⟩ | ⟨hk, hu, hT⟩ | ⟨hk, hu, hT⟩ | ⟨hk, hu, hT⟩ | ⟨hk, hu, hT⟩ | ⟨hk, hu, hT⟩ | ⟨hk, hu, hT⟩
  case inr.inr.inl =>
    have hl : listedB c = true := by
      unfold textB at h
      rw [hu] at h
      simp at h
      exact h.2
    have hr : c.reqs.length ≤ 8 := by
      unfold listedB at hl
      split at hl
      · simp at hl
        omega
      · simp at hl
        omega
    rw [hu]
    simpa [clNums] using hr
  all_goals
    rw [hu]
    simp [clNums]
theorem join_len8 (sep : List UInt8) (n : Nat) : ∀ l : List (List UInt8), (∀ x ∈ l, x.length ≤ n) → (Lib.join l sep).length ≤ l.length * (n + sep.length)
  | [], _ => by simp [Lib.join]
  | x :: l, h => by
    rw [Lib.join_cons, List.length_append]
    have hx := h x List.mem_cons_self
    have ht : ∀ m : List (List UInt8), (∀ y ∈ m, y.length ≤ n) → (Lib.joinTail sep m).length ≤ m.length * (n + sep.length) := by
      intro m
      induction m with
      | nil => intro _; simp [Lib.joinTail]
      | cons y m ih =>
        intro hm
        have h1 := hm y List.mem_cons_self
        have h2 := ih (fun z hz => hm z (List.mem_cons_of_mem _ hz))
        have e : Lib.joinTail sep (y :: m) = sep ++ y ++ Lib.joinTail sep m := by simp [Lib.joinTail]
        rw [e, List.length_append, List.length_append, List.length_cons, Nat.succ_mul]
        omega
    have := ht l (fun y hy => h y (List.mem_cons_of_mem _ hy))
    rw [List.length_cons, Nat.succ_mul]
    omega
theorem clText_len {c : Cl} (hc : c.Ok) (h : textB c = true) : (clText c ((usesF c.kind).getD [])).length ≤ 300 := by
  have h8 := clNums_le8 hc.op h
  have hj := join_len8 [44, 32] 21 ((clNums c ((usesF c.kind).getD [])).map Lib.itoa) (fun x hx => by
    obtain ⟨n, hn, rfl⟩ := List.mem_map.1 hx
    have h2 := clNums_ok hc _ n hn
    exact Lib.itoa_length_le n h2.1 h2.2)
  rw [List.length_map] at hj
  have hw : (wordK c.kind).length ≤ 9 := by
    unfold wordK
    split
    · have hj : ∀ i, (clWords.getD i []).length ≤ 9 := by
        intro i
        rcases Nat.lt_or_ge i 22 with h | h
        · exact (show ∀ i < 22, (clWords.getD i []).length ≤ 9 by decide) i h
        · rw [List.getD_eq_getElem?_getD, List.getElem?_eq_none (by exact h)]
          decide
      exact hj _
    · simp
  have hr : (redK c.op).length ≤ 3 := by
    unfold redK
    rcases Nat.lt_or_ge c.op.toNat 3 with h | h
    · exact (show ∀ i < 3, (clReds.getD i []).length ≤ 3 by decide) _ h
    · rw [List.getD_eq_getElem?_getD, List.getElem?_eq_none (by exact h)]
      decide
  have hm : (clNums c ((usesF c.kind).getD [])).length * (21 + ([44, 32] : List UInt8).length) ≤ 8 * 23 := Nat.mul_le_mul h8 (by decide)
  unfold clText
  simp only [List.length_append, List.length_singleton]
  split
  · simp only [List.length_append, List.length_cons, List.length_nil] at hm hj ⊢
    omega
  · simp only [List.length_cons, List.length_nil] at hm hj ⊢
    omega
theorem clText_pos (c : Cl) (ul : List Int) : clText c ul ≠ [] := by
  unfold clText
  simp
end Go.Proofs.YtgphigpbgiceiaaGreatDoor
