/- RegRel's law where operations have guards: an operation that is not wanted leaves nothing. -/
import Derived.Test.YtgphigpbgiceiaaGreatDoorRegRel
namespace Go.Proofs.YtgphigpbgiceiaaGreatDoor
open Go
set_option linter.unusedVariables false
set_option linter.unusedSimpArgs false

/-- Is an operation wanted? -/
def wantR (ops : Array Oper) (ρ : Operand → Value) (o : Oper) : Bool := Region.wanted o fun j => match (ops[j]?).bind (·.dst) with
  | some d => (match ρ (.tmp d) with | .bool b => some b | _ => none)
  | none => none
theorem wantR_eq {ops : Array Oper} {a : Act} {o : Oper} : Region.wanted o (yielded ops a.tmps) = wantR ops a.eval o := by
  unfold wantR
  congr 1
  funext j
  unfold yielded
  cases (ops[j]?).bind (·.dst) with
  | none => rfl
  | some d =>
    show (match a.tmps[d]? with | some (.bool b) => some b | _ => none) = (match a.tmps.getD d undef with | .bool b => some b | _ => none)
    rw [Array.getD_eq_getD_getElem?]
    cases a.tmps[d]? with
    | none => rfl
    | some v => cases v <;> rfl
theorem wantR_none {ops : Array Oper} {ρ : Operand → Value} {o : Oper} (h : o.guard = none) : wantR ops ρ o = true := by
  unfold wantR Region.wanted
  rw [h]
theorem wantR_some {ops : Array Oper} {ρ : Operand → Value} {o oj : Oper} {j d : Nat} {b x : Bool} (h : o.guard = some (j, b)) (hj : ops[j]? = some oj) (hd : oj.dst = some d) (hv : ρ (.tmp d) = .bool x) : wantR ops ρ o = (x == b) := by
  unfold wantR Region.wanted
  rw [h]
  simp [hj, hd, hv]
theorem wantR_undef {ops : Array Oper} {ρ : Operand → Value} {o oj : Oper} {j d : Nat} {b : Bool} (h : o.guard = some (j, b)) (hj : ops[j]? = some oj) (hd : oj.dst = some d) (hv : ρ (.tmp d) = undef) : wantR ops ρ o = false := by
  unfold wantR Region.wanted
  rw [h]
  simp [hj, hd, hv, undef]
/-- Operations whose edges go back, each with a temporary of its own. -/
def regOkG (ops : Array Oper) (size : Nat) : Bool :=
  ((List.range ops.size).all fun i => match ops[i]? with
    | some o => (o.after.toList.all fun e => !Region.binds .any e || decide (e.on < i)) && (match o.dst with | some d => decide (d < size) | none => true)
    | none => true) && decide ((ops.toList.filterMap (·.dst)).Nodup)
theorem regOkG_parts {ops : Array Oper} {size : Nat} (h : regOkG ops size = true) : (∀ (i : Nat) (o : Oper), ops[i]? = some o → (∀ e ∈ o.after, Region.binds .any e = true → e.on < i) ∧ True ∧ ∀ d, o.dst = some d → d < size) ∧ (dstsOf ops).Nodup := by
  unfold regOkG at h
  rw [Bool.and_eq_true] at h
  refine ⟨fun i o ho => ?_, of_decide_eq_true h.2⟩
  have hi : i < ops.size := (Array.getElem?_eq_some_iff.1 ho).1
  have h1 := List.all_eq_true.1 h.1 i (List.mem_range.2 hi)
  rw [ho] at h1
  simp only [Bool.and_eq_true] at h1
  refine ⟨fun e he hb => ?_, trivial, fun d hd => ?_⟩
  · have := List.all_eq_true.1 h1.1 e (by simpa using he)
    rw [hb] at this
    exact of_decide_eq_true (by simpa using this)
  · have := h1.2
    rw [hd] at this
    exact of_decide_eq_true this

section
variable {P : Program} {ops : Array Oper} {Q : Exit → Act → World → Prop} {a0 : Act} (C : World → Prop) (Good : Nat → Value → World → Prop)

theorem wpAny_relg (hok : regOkG ops a0.tmps.size = true)
    (hstep : ∀ (i : Nat) (o : Oper), ops[i]? = some o → ∀ (ρ : Operand → Value) (w : World), C w → (∀ t, t ∉ dstsOf ops → ρ (.tmp t) = a0.eval (.tmp t)) → (∀ x, (∀ t, x ≠ .tmp t) → ρ x = a0.eval x) →
      (∀ e ∈ o.after, Region.binds .any e = true → ∀ oj, ops[e.on]? = some oj → ∀ d, oj.dst = some d → Good d (ρ (.tmp d)) w) →
      if wantR ops ρ o = true then StepOk P (fun v w' => C w' ∧ (∀ s u, Good s u w → Good s u w') ∧ ∀ d, o.dst = some d → Good d v w') ((execOp ρ o).run P w) else ∀ d, o.dst = some d → Good d undef w)
    (hend : ∀ (us : Nat → Value) (w : World), C w → (∀ (i : Nat) (o : Oper), ops[i]? = some o → ∀ d, o.dst = some d → Good d (us d) w) → Q .normal ⟨(dstsOf ops).foldl (fun t d => t.setIfInBounds d (us d)) a0.tmps, a0.defers⟩ w) :
    ∀ (fuel : Nat) (listed : Array Bool) (a : Act) (w : World), left listed ≤ fuel → Stand ops a0 C Good listed a w → wpAny P .any ops Q fuel listed a w := by
  obtain ⟨hp, hnd⟩ := regOkG_parts hok
  have hfin : ∀ (listed : Array Bool) (a : Act) (w : World), Stand ops a0 C Good listed a w → Region.ready .any ops listed = [] → Q .normal a w := by
    intro listed a w hs hr
    have hall : ∀ i o, ops[i]? = some o → listed.getD i true = true := by
      intro i
      induction i using Nat.strongRecOn with
      | _ i ih =>
        intro o ho
        cases hl : listed.getD i true with
        | true => rfl
        | false =>
          have : i ∈ Region.ready .any ops listed := mem_ready.2 ⟨hl, o, ho, fun e he hbd => by
            have hlt := (hp i o ho).1 e he hbd
            have hsz : e.on < listed.size := by
              rw [hs.size]
              exact Nat.lt_trans hlt (Array.getElem?_eq_some_iff.1 ho).1
            have h := ih e.on hlt (ops[e.on]'(by rw [← hs.size]; exact hsz)) (Array.getElem?_eq_getElem _)
            rw [Array.getD_eq_getD_getElem?, Array.getElem?_eq_getElem hsz] at h ⊢
            exact h⟩
          rw [hr] at this
          cases this
    have hg := fun i o ho => hs.good i o ho (hall i o ho)
    have he := hend (fun d => a.tmps.getD d undef) w hs.held hg
    have hfold : ∀ (ds : List Nat) (t : Array Value), (ds.foldl (fun t d => t.setIfInBounds d (a.tmps.getD d undef)) t).size = t.size ∧ ∀ s : Nat, s < t.size → (ds.foldl (fun t d => t.setIfInBounds d (a.tmps.getD d undef)) t)[s]? = if s ∈ ds then some (a.tmps.getD s undef) else t[s]? := by
      intro ds
      induction ds with
      | nil => intro t; simp
      | cons d ds ih =>
        intro t
        obtain ⟨h1, h2⟩ := ih (t.setIfInBounds d (a.tmps.getD d undef))
        refine ⟨by rw [List.foldl_cons, h1]; simp, fun s hsz => ?_⟩
        rw [List.foldl_cons, h2 s (by simpa using hsz)]
        by_cases hm : s ∈ ds
        · simp [hm]
        · by_cases hd : d = s
          · subst hd
            simp [hm, hsz]
          · rw [if_neg hm, if_neg (by simp [hm, Ne.symm hd]), Array.getElem?_setIfInBounds_ne hd]
    have hta : a = ⟨(dstsOf ops).foldl (fun t d => t.setIfInBounds d (a.tmps.getD d undef)) a0.tmps, a0.defers⟩ := by
      obtain ⟨ta, da⟩ := a
      have e1 : da = a0.defers := hs.defers
      subst e1
      congr 1
      apply Array.ext_getElem?
      intro s
      obtain ⟨h1, h2⟩ := hfold (dstsOf ops) a0.tmps
      have htz : ta.size = a0.tmps.size := hs.tsize
      by_cases hsz : s < a0.tmps.size
      · rw [h2 s hsz]
        by_cases hm : s ∈ dstsOf ops
        · rw [if_pos hm]
          show ta[s]? = some (ta.getD s undef)
          rw [Array.getD_eq_getD_getElem?, Array.getElem?_eq_getElem (by omega)]
          rfl
        · rw [if_neg hm]
          exact hs.out s hm
      · rw [Array.getElem?_eq_none (by omega), Array.getElem?_eq_none (by rw [h1]; omega)]
    rw [hta]
    exact he
  have hmain : ∀ (fuel : Nat) (listed : Array Bool) (a : Act) (w : World), Stand ops a0 C Good listed a w → (∀ (l' : Array Bool) (a' : Act) (w' : World), left l' < left listed → Stand ops a0 C Good l' a' w' → wpAny P .any ops Q fuel l' a' w') → ∀ i ∈ Region.ready .any ops listed, wpOp P ops Q i (wpAny P .any ops Q fuel (listed.setIfInBounds i true)) a w := by
    intro fuel listed a w hs hnext i hi
    obtain ⟨hun, o, ho, hdep⟩ := mem_ready.1 hi
    unfold wpOp
    simp only [ho]
    have hst := hstep i o ho a.eval w hs.held (fun t ht => ?_) (fun x hx => ?_) (fun e he hb oj hoj d hd => ?_)
    rotate_left
    · show a.tmps.getD t undef = a0.tmps.getD t undef
      rw [Array.getD_eq_getD_getElem?, Array.getD_eq_getD_getElem?, hs.out t ht]
    · cases x with
      | tmp t => exact absurd rfl (hx t)
      | _ => rfl
    · have hl := hdep e he hb
      refine hs.good e.on oj hoj ?_ d hd
      rw [Array.getD_eq_getD_getElem?] at hl ⊢
      cases hq : listed[e.on]? with
      | none => rw [hq] at hl; cases hl
      | some b => rw [hq] at hl; exact hl
    have hput : ∀ (v : Value) (w' : World), C w' → (∀ s u, Good s u w → Good s u w') → (∀ d, o.dst = some d → Good d v w') → wpAny P .any ops Q fuel (listed.setIfInBounds i true) (a.put o.dst v) w' := by
      intro v w' hC hmono hgood
      refine hnext _ _ _ (left_set hun) ⟨by simp [hs.size], hC, ?_, ?_, fun s hsn => ?_, fun j oj hoj hlj d hd => ?_⟩
      · cases o.dst <;> exact hs.defers
      · cases hdst : o.dst with
        | none => exact hs.tsize
        | some d => simp [Act.put, hs.tsize]
      · cases hdst : o.dst with
        | none => exact hs.out s hsn
        | some d =>
          have hne : d ≠ s := fun e => hsn (e ▸ List.mem_filterMap.2 ⟨o, by simpa using Array.mem_of_getElem? ho, hdst⟩)
          show (a.tmps.setIfInBounds d v)[s]? = _
          rw [Array.getElem?_setIfInBounds_ne hne]
          exact hs.out s hsn
      · by_cases hji : j = i
        · subst hji
          obtain rfl := Option.some.inj (ho.symm.trans hoj)
          have hv := hgood d hd
          have hlt : d < a.tmps.size := by rw [hs.tsize]; exact (hp j o ho).2.2 d hd
          have e : (a.put o.dst v).tmps.getD d undef = v := by
            rw [hd]
            show (a.tmps.setIfInBounds d v).getD d undef = v
            simp [Array.getD_eq_getD_getElem?, hlt]
          rw [e]
          exact hv
        · have hlj2 : listed.getD j true = true := by
            rw [Array.getD_eq_getD_getElem?, Array.getElem?_setIfInBounds_ne (Ne.symm hji)] at hlj
            rw [Array.getD_eq_getD_getElem?]
            exact hlj
          have hg := hmono _ _ (hs.good j oj hoj hlj2 d hd)
          have e : (a.put o.dst v).tmps.getD d undef = a.tmps.getD d undef := by
            cases hdst : o.dst with
            | none => rfl
            | some d2 =>
              have hne : d2 ≠ d := fun e => hji (dst_ne hnd hoj ho hd (e ▸ hdst))
              show (a.tmps.setIfInBounds d2 v).getD d undef = _
              rw [Array.getD_eq_getD_getElem?, Array.getElem?_setIfInBounds_ne hne, ← Array.getD_eq_getD_getElem?]
          rw [e]
          exact hg
    by_cases hwd : Region.wanted o (yielded ops a.tmps) = true
    · rw [if_pos hwd]
      rw [wantR_eq] at hwd
      rw [if_pos hwd] at hst
      exact .inl (stepOk_wp hst fun v w' ⟨hC, hmono, hgood⟩ => hput v w' hC hmono hgood)
    · rw [if_neg hwd]
      rw [wantR_eq] at hwd
      rw [if_neg hwd] at hst
      exact hput undef w hs.held (fun _ _ h => h) hst
  intro fuel
  induction fuel with
  | zero =>
    intro listed a w hl hs
    have hr : Region.ready .any ops listed = [] := by
      rw [List.eq_nil_iff_forall_not_mem]
      intro i hi
      have := left_set (mem_ready.1 hi).1
      omega
    exact ⟨hr, hfin listed a w hs hr⟩
  | succ fuel ih =>
    intro listed a w hl hs
    exact ⟨hfin listed a w hs, hmain fuel listed a w hs (fun l' a' w' hlt hs' => ih l' a' w' (by omega) hs')⟩

/-- THE LAW. -/
theorem wp_region_relg {id : Nat} {w : World} (hm : P.follows .mixedOrders = true) (hok : regOkG ops a0.tmps.size = true) (hC : C { w with drawn := w.drawn + 1 })
    (hstep : ∀ (i : Nat) (o : Oper), ops[i]? = some o → ∀ (ρ : Operand → Value) (w : World), C w → (∀ t, t ∉ dstsOf ops → ρ (.tmp t) = a0.eval (.tmp t)) → (∀ x, (∀ t, x ≠ .tmp t) → ρ x = a0.eval x) →
      (∀ e ∈ o.after, Region.binds .any e = true → ∀ oj, ops[e.on]? = some oj → ∀ d, oj.dst = some d → Good d (ρ (.tmp d)) w) →
      if wantR ops ρ o = true then StepOk P (fun v w' => C w' ∧ (∀ s u, Good s u w → Good s u w') ∧ ∀ d, o.dst = some d → Good d v w') ((execOp ρ o).run P w) else ∀ d, o.dst = some d → Good d undef w)
    (hend : ∀ (us : Nat → Value) (w : World), C w → (∀ (i : Nat) (o : Oper), ops[i]? = some o → ∀ d, o.dst = some d → Good d (us d) w) → Q .normal ⟨(dstsOf ops).foldl (fun t d => t.setIfInBounds d (us d)) a0.tmps, a0.defers⟩ w) :
    (Code.region id ops true).wp P Q a0 w := by
  refine wp_region_any hm (wpAny_relg C Good hok hstep hend ops.size _ a0 _ ?_ ⟨by simp, hC, rfl, rfl, fun _ _ => rfl, fun i o ho hl d hd => ?_⟩)
  · unfold left
    refine Nat.le_trans (List.length_filter_le _ _) (by simp)
  · have hi := (Array.getElem?_eq_some_iff.1 ho).1
    rw [Array.getD_eq_getD_getElem?] at hl
    simp [hi] at hl
end

end Go.Proofs.YtgphigpbgiceiaaGreatDoor
