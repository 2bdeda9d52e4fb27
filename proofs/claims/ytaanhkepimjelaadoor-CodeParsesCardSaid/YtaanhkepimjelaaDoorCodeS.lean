/- Plain steps of dispatcherref05.Heights: rounds. -/
import Derived.Test.YtaanhkepimjelaaDoorCodeQ
namespace Go.Proofs.YtaanhkepimjelaaDoor
set_option linter.unusedVariables false

/-- Within a round at place a, of height v: 'done' are the ways gone over. -/
structure RIn (c : List Ins) (l : List Int) (a : Nat) (v : Int) (done : List Int) : Prop extends Some5 c l where
  la : a < c.length
  here : ∀ ha : a < l.length, l[a] = v
  vpos : 0 ≤ v
  tk : ∀ ha : a < c.length, tkOf c[a] ≤ v
  hm : ∀ ha : a < c.length, v - tkOf c[a] + gvOf c[a] ≤ 200
  over : ∀ (ha : a < c.length), ∀ x ∈ done, 0 ≤ x ∧ ∃ hx : x.toNat < l.length, l[x.toNat] = v - tkOf c[a] + gvOf c[a]
theorem RIn.start {c : List Ins} {l : List Int} {a : Nat} (h : Some5 c l) (ha : a < l.length) (hc : a < c.length) (hne : l[a] ≠ -1) (ht : tkOf c[a] ≤ l[a]) (hm : l[a] - tkOf c[a] + gvOf c[a] ≤ 200) : RIn c l a l[a] [] :=
  ⟨h, hc, fun _ => rfl, h.pos ha hne, fun _ => ht, fun _ => hm, fun _ x hx => by cases hx⟩
theorem Some5.bad {c : List Ins} {l : List Int} {a : Nat} (h : Some5 c l) (ha : a < l.length) (hc : a < c.length) (hne : l[a] ≠ -1) (hb : l[a] < tkOf c[a] ∨ 200 < l[a] - tkOf c[a] + gvOf c[a]) : Bad c :=
  ⟨a, l[a], h.sound a ha hne, hc, hb.imp id .inl⟩
theorem RIn.high {c : List Ins} {l : List Int} {a : Nat} {v : Int} {d : List Int} (h : RIn c l a v d) : 0 ≤ v - tkOf (c[a]'h.la) + gvOf (c[a]'h.la) := by
  have := gv_pos (c[a]'h.la)
  have := h.tk h.la
  omega
theorem RIn.new {c : List Ins} {l : List Int} {a : Nat} {v : Int} {d : List Int} {w : Nat} (h : RIn c l a v d) (hw : (w : Int) ∈ waysOf a (c[a]'h.la)) (hwl : w < l.length) (h1 : l[w] = -1) :
    RIn c (l.set w (v - tkOf (c[a]'h.la) + gvOf (c[a]'h.la))) a v (d ++ [(w : Int)]) := by
  have hhi := h.high
  have hal : a < l.length := by rw [h.len]; exact h.la
  have hv := h.here hal
  have hvp := h.vpos
  have hset := h.toSome5.set hal h.la (by omega) (by rw [hv]; exact h.tk h.la) (by rw [hv]; exact h.hm h.la) hw hwl h1
  rw [hv] at hset
  have hget : ∀ j (hj : j < l.length), l[j] ≠ -1 → (l.set w (v - tkOf (c[a]'h.la) + gvOf (c[a]'h.la)))[j]'(by rw [List.length_set]; exact hj) = l[j] := fun j hj hne => by
    rw [List.getElem_set]
    split
    · rename_i e; subst e; exact absurd h1 hne
    · rfl
  refine ⟨hset, h.la, fun ha => ?_, hvp, h.tk, h.hm, fun ha x hx => ?_⟩
  · rw [List.length_set] at ha
    rw [hget a ha (by omega)]
    exact hv
  · rcases List.mem_append.1 hx with hx | hx
    · obtain ⟨hp, hx1, e⟩ := h.over ha x hx
      exact ⟨hp, by rw [List.length_set]; exact hx1, by rw [hget _ hx1 (by rw [e]; omega)]; exact e⟩
    · have : x = (w : Int) := by simpa using hx
      subst this
      exact ⟨by omega, by rw [List.length_set]; simpa using hwl, by simp⟩
theorem RIn.same {c : List Ins} {l : List Int} {a : Nat} {v : Int} {d : List Int} {w : Nat} (h : RIn c l a v d) (hwl : w < l.length) (h1 : l[w] = v - tkOf (c[a]'h.la) + gvOf (c[a]'h.la)) : RIn c l a v (d ++ [(w : Int)]) := by
  refine ⟨h.toSome5, h.la, h.here, h.vpos, h.tk, h.hm, fun ha x hx => ?_⟩
  rcases List.mem_append.1 hx with hx | hx
  · exact h.over ha x hx
  · have : x = (w : Int) := by simpa using hx
    subst this
    exact ⟨by omega, by simpa using hwl, by simpa using h1⟩
theorem RIn.bad {c : List Ins} {l : List Int} {a : Nat} {v : Int} {d : List Int} {w : Nat} (h : RIn c l a v d) (hw : (w : Int) ∈ waysOf a (c[a]'h.la)) (hwl : w < l.length) (h1 : l[w] ≠ -1) (h2 : l[w] ≠ v - tkOf (c[a]'h.la) + gvOf (c[a]'h.la)) : Bad c := by
  have hal : a < l.length := by rw [h.len]; exact h.la
  have hv := h.here hal
  have hvp := h.vpos
  have hr := h.sound a hal (by omega)
  rw [hv] at hr
  exact ⟨a, v, hr, h.la, .inr (.inr ⟨h.tk h.la, h.hm h.la, w, l[w], hw, h.sound w hwl h1, h2⟩)⟩
theorem RIn.shut {c : List Ins} {l : List Int} {a : Nat} {v : Int} (hla : a < c.length) (h : RIn c l a v (waysOf a c[a])) : Shut c l a := by
  intro hj1 hj2
  rw [h.here hj1]
  refine ⟨h.tk hj2, h.hm hj2, fun w hw => ?_⟩
  obtain ⟨_, hx, e⟩ := h.over hj2 _ hw
  exact ⟨by simpa using hx, by simpa using e⟩
/-- A number of heights is -1 or not below 0. -/
theorem Some5.neg {c : List Ins} {l : List Int} (h : Some5 c l) {j : Nat} (hj : j < l.length) : l[j] < 0 ↔ l[j] = -1 := by
  constructor
  · intro h1
    by_cases e : l[j] = -1
    · exact e
    · have := h.pos hj e
      omega
  · intro h1
    omega
theorem Some5.le {c : List Ins} {l : List Int} (h : Some5 c l) {j : Nat} (hj : j < l.length) : l[j] ≤ 200 := by
  by_cases e : l[j] = -1
  · omega
  · exact (h.sound j hj e).le
end Go.Proofs.YtaanhkepimjelaaDoor
