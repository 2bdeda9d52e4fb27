/- Small laws for a region that draws its order, walked operation by operation: one operation is taken first, its state written out; one alone may come up. -/
import Derived.Test.YtjfoinikdifgmaaDoorProg
import Derived.Deep.RegionHeld3
namespace Go.Proofs.YtjfoinikdifgmaaDoor

section
variable {P : Program} {ops : Array Oper} {Q : Exit → Act → World → Prop} {md : Region.Mode} {S : World → Prop}

/-- Number i is taken first. -/
theorem heldTake {i : Nat} {N : Option Tmp} {oi : Oper} {v : Value} {fuel : Nat} {l : Array Bool} {a a' : Act} {w : World} (l' : Array Bool) (hi : ops[i]? = some oi) (hN : oi.dst = N)
    (hs : Region.noSelect ops = true) (hf : Region.free md ops l i = true) (hr : (Region.ready md ops l).contains i = true) (hl : l.setIfInBounds i true = l')
    (hQ : ∀ c a w, Q (.panic c) (a.put oi.dst v) w → Q (.panic c) a w) (hy : YieldsIf P ops S oi v a) (hS : S w) (ha : a.put N v = a')
    (h : wpAnyH P md ops Q S fuel l' a' w) : wpAnyH P md ops Q S (fuel + 1) l a w := by
  subst hl hN ha
  exact wpAnyH_take hi hs hf hr hQ hy hS h
/-- Number i alone may come up. -/
theorem heldOne {i : Nat} {oi : Oper} {fuel : Nat} {l : Array Bool} {a : Act} {w : World} (l' : Array Bool) (hi : ops[i]? = some oi) (hr : Region.ready md ops l = [i]) (hl : l.setIfInBounds i true = l')
    (h : ∀ K : Act → World → Prop, Shut (∀ a' w', S w' → (S w' → wpAnyH P md ops Q S fuel l' a' w') → K a' w') → if Region.wanted oi (yielded ops a.tmps) = true then Oper.wp P oi a w K Q else K (a.put oi.dst undef) w) :
    wpAnyH P md ops Q S (fuel + 1) l a w := by
  subst hl
  exact wpAnyH_ready hr (by simp) (AllReadyH.cons hi (fun K hK => h K hK) AllReadyH.nil)
theorem heldNorm {fuel : Nat} {l : Array Bool} {a a' : Act} {w : World} (ha : a = a') (h : wpAnyH P md ops Q S fuel l a' w) : wpAnyH P md ops Q S fuel l a w := by
  subst ha
  exact h
end
end Go.Proofs.YtjfoinikdifgmaaDoor
