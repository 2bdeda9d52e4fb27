/- A region that draws its order, walked one operation at a time: each operation leaves a value that is good for its temporary in the world at hand, whatever came before; goodness stays. So no order is looked at. (A slice that is built has another address in each order; what matters is what lies there.) -/
import Derived.Orders
import Derived.WalkKit
import Derived.Below
namespace Go.Proofs.YtgphigpbgiceiaaGreatDoor
open Go
set_option linter.unusedVariables false
set_option linter.unusedSimpArgs false

/-- What one operation must leave. -/
def StepOk (P : Program) (R : Value → World → Prop) : Result Next → Prop
  | .ok (.value v) w' => R v w'
  | .ok .skip w' => R undef w'
  | .ok (.enter f args) w' => Calls P f args w' fun e w'' => ∃ v, e = .returned v ∧ R v w''
  | _ => False
theorem stepOk_value {P : Program} {R : Value → World → Prop} (v : Value) (w : World) : StepOk P R (.ok (.value v) w) = R v w := rfl
theorem stepOk_enter {P : Program} {R : Value → World → Prop} (f : FuncId) (args : Array Value) (w : World) : StepOk P R (.ok (.enter f args) w) = Calls P f args w fun e w'' => ∃ v, e = .returned v ∧ R v w'' := rfl
theorem stepOk_wp {P : Program} {R : Value → World → Prop} {o : Oper} {a : Act} {w : World} {K : Act → World → Prop} {Q : Exit → Act → World → Prop} (h : StepOk P R ((execOp a.eval o).run P w)) (hK : ∀ v w', R v w' → K (a.put o.dst v) w') : o.wp P a w K Q := by
  unfold Oper.wp
  generalize (execOp a.eval o).run P w = r at h
  cases r with
  | ok n w' =>
    cases n with
    | value v => exact hK v w' h
    | skip => exact hK undef w' h
    | enter f args =>
      refine Calls.mono h fun e w'' ⟨v, he, hr⟩ => ?_
      subst he
      exact hK v w'' hr
    | _ => exact absurd h (by simp [StepOk])
  | halt x w' => exact absurd h (by simp [StepOk])

/-- Operations whose edges go back, with no guard, each with a temporary of its own. -/
def regOk (ops : Array Oper) (size : Nat) : Bool :=
  ((List.range ops.size).all fun i => match ops[i]? with
    | some o => (o.after.toList.all fun e => !Region.binds .any e || decide (e.on < i)) && o.guard.isNone && (match o.dst with | some d => decide (d < size) | none => true)
    | none => true) && decide ((ops.toList.filterMap (·.dst)).Nodup)
def dstsOf (ops : Array Oper) : List Nat := ops.toList.filterMap (·.dst)
theorem regOk_parts {ops : Array Oper} {size : Nat} (h : regOk ops size = true) : (∀ (i : Nat) (o : Oper), ops[i]? = some o → (∀ e ∈ o.after, Region.binds .any e = true → e.on < i) ∧ o.guard = none ∧ ∀ d, o.dst = some d → d < size) ∧ (dstsOf ops).Nodup := by
  unfold regOk at h
  rw [Bool.and_eq_true] at h
  refine ⟨fun i o ho => ?_, of_decide_eq_true h.2⟩
  have hi : i < ops.size := (Array.getElem?_eq_some_iff.1 ho).1
  have h1 := List.all_eq_true.1 h.1 i (List.mem_range.2 hi)
  rw [ho] at h1
  simp only [Bool.and_eq_true] at h1
  refine ⟨fun e he hb => ?_, ?_, fun d hd => ?_⟩
  · have := List.all_eq_true.1 h1.1.1 e (by simpa using he)
    rw [hb] at this
    exact of_decide_eq_true (by simpa using this)
  · have := h1.1.2
    cases hg : o.guard with
    | none => rfl
    | some x => rw [hg] at this; cases this
  · have := h1.2
    rw [hd] at this
    exact of_decide_eq_true this
theorem dst_ne {ops : Array Oper} (hn : (dstsOf ops).Nodup) : ∀ {i j : Nat} {oi oj : Oper} {d : Nat}, ops[i]? = some oi → ops[j]? = some oj → oi.dst = some d → oj.dst = some d → i = j := by
  unfold dstsOf at hn
  obtain ⟨l⟩ := ops
  simp only [List.getElem?_toArray] at *
  intro i j oi oj d h1 h2 h3 h4
  induction l generalizing i j with
  | nil => simp at h1
  | cons o l ih =>
    rw [List.filterMap_cons] at hn
    have hn2 : (l.filterMap (·.dst)).Nodup := by
      split at hn
      · exact hn
      · exact (List.nodup_cons.1 hn).2
    cases i with
    | zero =>
      cases j with
      | zero => rfl
      | succ j =>
        simp only [List.getElem?_cons_zero, Option.some.injEq] at h1
        simp only [List.getElem?_cons_succ] at h2
        subst h1
        rw [h3] at hn
        simp only [List.nodup_cons] at hn
        exact absurd (List.mem_filterMap.2 ⟨oj, List.mem_of_getElem? h2, h4⟩) hn.1
    | succ i =>
      simp only [List.getElem?_cons_succ] at h1
      cases j with
      | zero =>
        simp only [List.getElem?_cons_zero, Option.some.injEq] at h2
        subst h2
        rw [h4] at hn
        simp only [List.nodup_cons] at hn
        exact absurd (List.mem_filterMap.2 ⟨oi, List.mem_of_getElem? h1, h3⟩) hn.1
      | succ j =>
        simp only [List.getElem?_cons_succ] at h2
        rw [ih hn2 h1 h2]

section
variable {P : Program} {ops : Array Oper} {Q : Exit → Act → World → Prop} {a0 : Act} (C : World → Prop) (Good : Nat → Value → World → Prop)

/-- Where the region stands: which operations have come up, what their temporaries hold. -/
structure Stand (ops : Array Oper) (a0 : Act) (C : World → Prop) (Good : Nat → Value → World → Prop) (listed : Array Bool) (a : Act) (w : World) : Prop where
  size : listed.size = ops.size
  held : C w
  defers : a.defers = a0.defers
  tsize : a.tmps.size = a0.tmps.size
  out : ∀ s : Nat, s ∉ dstsOf ops → a.tmps[s]? = a0.tmps[s]?
  good : ∀ (i : Nat) (o : Oper), ops[i]? = some o → listed.getD i true = true → ∀ d, o.dst = some d → Good d (a.tmps.getD d undef) w
def left (listed : Array Bool) : Nat := (listed.toList.filter (! ·)).length
theorem left_set {listed : Array Bool} {i : Nat} (h : listed.getD i true = false) : left (listed.setIfInBounds i true) < left listed := by
  obtain ⟨l⟩ := listed
  unfold left
  simp only [List.setIfInBounds_toArray]
  rw [Array.getD_eq_getD_getElem?] at h
  simp only [List.getElem?_toArray] at h
  induction l generalizing i with
  | nil => simp at h
  | cons b l ih =>
    cases i with
    | zero =>
      simp at h
      subst h
      simp
    | succ i =>
      have h' := ih (i := i) (by simpa using h)
      cases b <;> simpa using h'

theorem wpAny_rel (hok : regOk ops a0.tmps.size = true)
    (hstep : ∀ (i : Nat) (o : Oper), ops[i]? = some o → ∀ (ρ : Operand → Value) (w : World), C w → (∀ t, t ∉ dstsOf ops → ρ (.tmp t) = a0.eval (.tmp t)) → (∀ x, (∀ t, x ≠ .tmp t) → ρ x = a0.eval x) →
      (∀ e ∈ o.after, Region.binds .any e = true → ∀ oj, ops[e.on]? = some oj → ∀ d, oj.dst = some d → Good d (ρ (.tmp d)) w) →
      StepOk P (fun v w' => C w' ∧ (∀ s u, Good s u w → Good s u w') ∧ ∀ d, o.dst = some d → Good d v w') ((execOp ρ o).run P w))
    (hend : ∀ (us : Nat → Value) (w : World), C w → (∀ (i : Nat) (o : Oper), ops[i]? = some o → ∀ d, o.dst = some d → Good d (us d) w) → Q .normal ⟨(dstsOf ops).foldl (fun t d => t.setIfInBounds d (us d)) a0.tmps, a0.defers⟩ w) :
    ∀ (fuel : Nat) (listed : Array Bool) (a : Act) (w : World), left listed ≤ fuel → Stand ops a0 C Good listed a w → wpAny P .any ops Q fuel listed a w := by
  obtain ⟨hp, hnd⟩ := regOk_parts hok
  have hfin : ∀ (listed : Array Bool) (a : Act) (w : World), Stand ops a0 C Good listed a w → Region.ready .any ops listed = [] → Q .normal a w := by
    intro listed a w hs hr
    have hall : ∀ i o, ops[i]? = some o → listed.getD i true = true := by
      intro i
      induction i using Nat.strongRecOn with
      | _ i ih =>
        intro o ho
        cases hl : listed.getD i true with
        | true => rfl
        | false =>
          have : i ∈ Region.ready .any ops listed := mem_ready.2 ⟨hl, o, ho, fun e he hbd => by
            have hlt := (hp i o ho).1 e he hbd
            have hsz : e.on < listed.size := by
              rw [hs.size]
              exact Nat.lt_trans hlt (Array.getElem?_eq_some_iff.1 ho).1
            have h := ih e.on hlt (ops[e.on]'(by rw [← hs.size]; exact hsz)) (Array.getElem?_eq_getElem _)
            rw [Array.getD_eq_getD_getElem?, Array.getElem?_eq_getElem hsz] at h ⊢
            exact h⟩
          rw [hr] at this
          cases this
    have hg := fun i o ho => hs.good i o ho (hall i o ho)
    have he := hend (fun d => a.tmps.getD d undef) w hs.held hg
    have hfold : ∀ (ds : List Nat) (t : Array Value), (ds.foldl (fun t d => t.setIfInBounds d (a.tmps.getD d undef)) t).size = t.size ∧ ∀ s : Nat, s < t.size → (ds.foldl (fun t d => t.setIfInBounds d (a.tmps.getD d undef)) t)[s]? = if s ∈ ds then some (a.tmps.getD s undef) else t[s]? := by
      intro ds
      induction ds with
      | nil => intro t; simp
      | cons d ds ih =>
        intro t
        obtain ⟨h1, h2⟩ := ih (t.setIfInBounds d (a.tmps.getD d undef))
        refine ⟨by rw [List.foldl_cons, h1]; simp, fun s hsz => ?_⟩
        rw [List.foldl_cons, h2 s (by simpa using hsz)]
        by_cases hm : s ∈ ds
        · simp [hm]
        · by_cases hd : d = s
          · subst hd
            simp [hm, hsz]
          · rw [if_neg hm, if_neg (by simp [hm, Ne.symm hd]), Array.getElem?_setIfInBounds_ne hd]
    have hta : a = ⟨(dstsOf ops).foldl (fun t d => t.setIfInBounds d (a.tmps.getD d undef)) a0.tmps, a0.defers⟩ := by
      obtain ⟨ta, da⟩ := a
      have e1 : da = a0.defers := hs.defers
      subst e1
      congr 1
      apply Array.ext_getElem?
      intro s
      obtain ⟨h1, h2⟩ := hfold (dstsOf ops) a0.tmps
      have htz : ta.size = a0.tmps.size := hs.tsize
      by_cases hsz : s < a0.tmps.size
      · rw [h2 s hsz]
        by_cases hm : s ∈ dstsOf ops
        · rw [if_pos hm]
          show ta[s]? = some (ta.getD s undef)
          rw [Array.getD_eq_getD_getElem?, Array.getElem?_eq_getElem (by omega)]
          rfl
        · rw [if_neg hm]
          exact hs.out s hm
      · rw [Array.getElem?_eq_none (by omega), Array.getElem?_eq_none (by rw [h1]; omega)]
    rw [hta]
    exact he
  have hmain : ∀ (fuel : Nat) (listed : Array Bool) (a : Act) (w : World), Stand ops a0 C Good listed a w → (∀ (l' : Array Bool) (a' : Act) (w' : World), left l' < left listed → Stand ops a0 C Good l' a' w' → wpAny P .any ops Q fuel l' a' w') → ∀ i ∈ Region.ready .any ops listed, wpOp P ops Q i (wpAny P .any ops Q fuel (listed.setIfInBounds i true)) a w := by
    intro fuel listed a w hs hnext i hi
    obtain ⟨hun, o, ho, hdep⟩ := mem_ready.1 hi
    unfold wpOp
    simp only [ho]
    have hw : Region.wanted o (yielded ops a.tmps) = true := by
      unfold Region.wanted
      rw [(hp i o ho).2.1]
    rw [if_pos hw]
    refine .inl (stepOk_wp (hstep i o ho a.eval w hs.held (fun t ht => ?_) (fun x hx => ?_) (fun e he hb oj hoj d hd => ?_)) fun v w' ⟨hC, hmono, hgood⟩ => ?_)
    · show a.tmps.getD t undef = a0.tmps.getD t undef
      rw [Array.getD_eq_getD_getElem?, Array.getD_eq_getD_getElem?, hs.out t ht]
    · cases x with
      | tmp t => exact absurd rfl (hx t)
      | _ => rfl
    · have hl := hdep e he hb
      refine hs.good e.on oj hoj ?_ d hd
      rw [Array.getD_eq_getD_getElem?] at hl ⊢
      cases hq : listed[e.on]? with
      | none => rw [hq] at hl; cases hl
      | some b => rw [hq] at hl; exact hl
    · refine hnext _ _ _ (left_set hun) ⟨by simp [hs.size], hC, ?_, ?_, fun s hsn => ?_, fun j oj hoj hlj d hd => ?_⟩
      · cases o.dst <;> exact hs.defers
      · cases hdst : o.dst with
        | none => exact hs.tsize
        | some d => simp [Act.put, hs.tsize]
      · cases hdst : o.dst with
        | none => exact hs.out s hsn
        | some d =>
          have hne : d ≠ s := fun e => hsn (e ▸ List.mem_filterMap.2 ⟨o, by simpa using Array.mem_of_getElem? ho, hdst⟩)
          show (a.tmps.setIfInBounds d v)[s]? = _
          rw [Array.getElem?_setIfInBounds_ne hne]
          exact hs.out s hsn
      · by_cases hji : j = i
        · subst hji
          obtain rfl := Option.some.inj (ho.symm.trans hoj)
          have hv := hgood d hd
          have hlt : d < a.tmps.size := by rw [hs.tsize]; exact (hp j o ho).2.2 d hd
          have e : (a.put o.dst v).tmps.getD d undef = v := by
            rw [hd]
            show (a.tmps.setIfInBounds d v).getD d undef = v
            simp [Array.getD_eq_getD_getElem?, hlt]
          rw [e]
          exact hv
        · have hlj2 : listed.getD j true = true := by
            rw [Array.getD_eq_getD_getElem?, Array.getElem?_setIfInBounds_ne (Ne.symm hji)] at hlj
            rw [Array.getD_eq_getD_getElem?]
            exact hlj
          have hg := hmono _ _ (hs.good j oj hoj hlj2 d hd)
          have e : (a.put o.dst v).tmps.getD d undef = a.tmps.getD d undef := by
            cases hdst : o.dst with
            | none => rfl
            | some d2 =>
              have hne : d2 ≠ d := fun e => hji (dst_ne hnd hoj ho hd (e ▸ hdst))
              show (a.tmps.setIfInBounds d2 v).getD d undef = _
              rw [Array.getD_eq_getD_getElem?, Array.getElem?_setIfInBounds_ne hne, ← Array.getD_eq_getD_getElem?]
          rw [e]
          exact hg
  intro fuel
  induction fuel with
  | zero =>
    intro listed a w hl hs
    have hr : Region.ready .any ops listed = [] := by
      rw [List.eq_nil_iff_forall_not_mem]
      intro i hi
      have := left_set (mem_ready.1 hi).1
      omega
    exact ⟨hr, hfin listed a w hs hr⟩
  | succ fuel ih =>
    intro listed a w hl hs
    exact ⟨hfin listed a w hs, hmain fuel listed a w hs (fun l' a' w' hlt hs' => ih l' a' w' (by omega) hs')⟩

/-- THE LAW. -/
theorem wp_region_rel {id : Nat} {w : World} (hm : P.follows .mixedOrders = true) (hok : regOk ops a0.tmps.size = true) (hC : C { w with drawn := w.drawn + 1 })
    (hstep : ∀ (i : Nat) (o : Oper), ops[i]? = some o → ∀ (ρ : Operand → Value) (w : World), C w → (∀ t, t ∉ dstsOf ops → ρ (.tmp t) = a0.eval (.tmp t)) → (∀ x, (∀ t, x ≠ .tmp t) → ρ x = a0.eval x) →
      (∀ e ∈ o.after, Region.binds .any e = true → ∀ oj, ops[e.on]? = some oj → ∀ d, oj.dst = some d → Good d (ρ (.tmp d)) w) →
      StepOk P (fun v w' => C w' ∧ (∀ s u, Good s u w → Good s u w') ∧ ∀ d, o.dst = some d → Good d v w') ((execOp ρ o).run P w))
    (hend : ∀ (us : Nat → Value) (w : World), C w → (∀ (i : Nat) (o : Oper), ops[i]? = some o → ∀ d, o.dst = some d → Good d (us d) w) → Q .normal ⟨(dstsOf ops).foldl (fun t d => t.setIfInBounds d (us d)) a0.tmps, a0.defers⟩ w) :
    (Code.region id ops true).wp P Q a0 w := by
  refine wp_region_any hm (wpAny_rel C Good hok hstep hend ops.size _ a0 _ ?_ ⟨by simp, hC, rfl, rfl, fun _ _ => rfl, fun i o ho hl d hd => ?_⟩)
  · unfold left
    refine Nat.le_trans (List.length_filter_le _ _) (by simp)
  · have hi := (Array.getElem?_eq_some_iff.1 ho).1
    rw [Array.getD_eq_getD_getElem?] at hl
    simp [hi] at hl
end

/-- What a temporary is wanted to hold: a value; a slice of whole numbers in a block of its own. -/
inductive Want where
  | is (v : Value)
  | row (l : List Int)
  | such (p : Value → World → Prop) (hp : ∀ u w w', Go.RowKit.Below w.heap.size w w' → p u w → p u w')
def Want.met : Want → Value → World → Prop
  | .is v, u, _ => u = v
  | .such p _, u, w => p u w
  | .row l, u, w => ∃ b, u = .slice (some ⟨b, 0, none⟩) l.length l.length ∧ b < w.heap.size ∧ ∀ k (hk : k < l.length), w.cell? ⟨b, k, none⟩ = some (.int .i64 l[k])
open Go.RowKit in
theorem Want.stay {W : Want} {u : Value} {w w' : World} (h : W.met u w) (hb : Below w.heap.size w w') : W.met u w' := by
  cases W with
  | is v => exact h
  | such p hp => exact hp u w w' hb h
  | row l =>
    obtain ⟨b, h1, h2, h3⟩ := h
    exact ⟨b, h1, Nat.lt_of_lt_of_le h2 hb.size, fun k hk => (hb.cell (p := ⟨b, k, none⟩) h2).trans (h3 k hk)⟩
def goodBy (tab : List (Nat × Want)) (s : Nat) (u : Value) (w : World) : Prop := match tab.lookup s with
  | some W => W.met u w
  | none => True
open Go.RowKit in
theorem goodBy_stay {tab : List (Nat × Want)} {w w' : World} (hb : Below w.heap.size w w') : ∀ s u, goodBy tab s u w → goodBy tab s u w' := fun s u h => by
  unfold goodBy at *
  split
  · rename_i W hW
    rw [hW] at h
    exact Want.stay (W := W) h hb
  · trivial
end Go.Proofs.YtgphigpbgiceiaaGreatDoor
