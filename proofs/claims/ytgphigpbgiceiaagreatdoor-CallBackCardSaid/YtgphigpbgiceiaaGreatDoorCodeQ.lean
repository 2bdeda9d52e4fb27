/- Plain steps of code.Heights: what is to do, what is done. -/
import Derived.Test.YtgphigpbgiceiaaGreatDoorCodeP
namespace Go.Proofs.YtgphigpbgiceiaaGreatDoor
set_option linter.unusedVariables false

theorem Reach.le {c : List Ins} {j : Nat} {h : Int} (hr : Reach c j h) : h ≤ 200 := by
  cases hr with
  | start => decide
  | step w hj hr ht hm hw => exact hm
theorem callMany_le (n : Int) : callMany n ≤ 31 := by
  unfold callMany
  repeat' split
  all_goals omega
theorem tk_le (i : Ins) : tkOf i ≤ 31 := by
  unfold tkOf
  split
  · exact callMany_le _
  · split
    · decide
    · split
      · decide
      · have : ∀ n : Nat, tkTab.getD n 0 ≤ 31 := fun n => by
          rw [List.getD_eq_getElem?_getD]
          match n with
          | 0 | 1 | 2 | 3 | 4 | 5 | 6 | 7 | 8 | 9 | 10 | 11 | 12 | 13 | 14 | 15 | 16 | 17 | 18 | 19 | 20 | 21 | 22 | 23 | 24 | 25 | 26 | 27 | 28 => decide
          | n + 29 => simp [tkTab]
        exact this _
/-- Between rounds: heights so far; L: what is to do. -/
structure HInv (c : List Ins) (l : List Int) (L : List Nat) : Prop extends Some5 c l where
  todo : ∀ j ∈ L, ∃ hj : j < l.length, l[j] ≠ -1
  shut : ∀ j (hj : j < l.length), l[j] ≠ -1 → j ∈ L ∨ Shut c l j
  many : cnt l + L.length ≤ c.length
/-- Within a round at place a, of height v, to go on with height v - takes + gives: 'done' are the ways gone over. -/
structure HIn (c : List Ins) (l : List Int) (L : List Nat) (a : Nat) (v : Int) (done : List Int) : Prop extends Some5 c l where
  todo : ∀ j ∈ L, ∃ hj : j < l.length, l[j] ≠ -1
  shut : ∀ j (hj : j < l.length), l[j] ≠ -1 → j ∈ L ∨ Shut c l j ∨ j = a
  many : cnt l + L.length + 1 ≤ c.length
  la : a < c.length
  here : ∀ ha : a < l.length, l[a] = v
  vpos : 0 ≤ v
  tk : ∀ ha : a < c.length, tkOf c[a] ≤ v
  hm : ∀ ha : a < c.length, v - tkOf c[a] + gvOf c[a] ≤ 200
  over : ∀ (ha : a < c.length), ∀ x ∈ done, 0 ≤ x ∧ ∃ hx : x.toNat < l.length, l[x.toNat] = v - tkOf c[a] + gvOf c[a]
theorem HInv.start {c : List Ins} (h0 : 0 < c.length) : HInv c ((List.replicate c.length (-1)).set 0 0) [0] := by
  refine ⟨Some5.start c, fun j hj => ?_, fun j hj hne => .inl ?_, ?_⟩
  · have : j = 0 := by simpa using hj
    subst this
    exact ⟨by simpa using h0, by simp⟩
  · rw [List.getElem_set] at hne
    split at hne
    · rename_i e; subst e; simp
    · simp at hne
  · have := cnt_start h0
    simp only [List.length_cons, List.length_nil]
    omega
theorem HInv.told {c : List Ins} {l : List Int} (h : HInv c l []) : Told c l :=
  ⟨h.toSome5, fun j hj hne => (h.shut j hj hne).resolve_left (by simp)⟩
theorem HInv.pop {c : List Ins} {l : List Int} {L : List Nat} {a : Nat} (h : HInv c l (L ++ [a])) (ha : a < l.length) (hc : a < c.length) (ht : tkOf c[a] ≤ l[a]) (hm : l[a] - tkOf c[a] + gvOf c[a] ≤ 200) : HIn c l L a l[a] [] := by
  obtain ⟨_, hne⟩ := h.todo a (by simp)
  refine ⟨h.toSome5, fun j hj => h.todo j (by simp [hj]), fun j hj h1 => ?_, ?_, hc, fun _ => rfl, h.toSome5.pos ha hne, fun _ => ht, fun _ => hm, fun _ x hx => by cases hx⟩
  · rcases h.shut j hj h1 with h2 | h2
    · rcases List.mem_append.1 h2 with h3 | h3
      · exact .inl h3
      · exact .inr (.inr (by simpa using h3))
    · exact .inr (.inl h2)
  · have := h.many
    rw [List.length_append, List.length_singleton] at this
    omega
theorem HInv.bad {c : List Ins} {l : List Int} {L : List Nat} {a : Nat} (h : HInv c l (L ++ [a])) (ha : a < l.length) (hc : a < c.length) (hb : l[a] < tkOf c[a] ∨ 200 < l[a] - tkOf c[a] + gvOf c[a]) : Bad c := by
  obtain ⟨_, hne⟩ := h.todo a (by simp)
  exact ⟨a, l[a], h.sound a ha hne, hc, hb.imp id .inl⟩
theorem HIn.high {c : List Ins} {l : List Int} {L : List Nat} {a : Nat} {v : Int} {d : List Int} (h : HIn c l L a v d) : 0 ≤ v - tkOf (c[a]'h.la) + gvOf (c[a]'h.la) := by
  have := gv_pos (c[a]'h.la)
  have := h.tk h.la
  omega
theorem HIn.new {c : List Ins} {l : List Int} {L : List Nat} {a : Nat} {v : Int} {d : List Int} {w : Nat} (h : HIn c l L a v d) (hw : (w : Int) ∈ waysOf a (c[a]'h.la)) (hwl : w < l.length) (h1 : l[w] = -1) :
    HIn c (l.set w (v - tkOf (c[a]'h.la) + gvOf (c[a]'h.la))) (L ++ [w]) a v (d ++ [(w : Int)]) := by
  have hhi := h.high
  have hal : a < l.length := by rw [h.len]; exact h.la
  have hv := h.here hal
  have hvp := h.vpos
  have hwa : w ≠ a := fun e => by subst e; omega
  have hset := h.toSome5.set hal h.la (by omega) (by rw [hv]; exact h.tk h.la) (by rw [hv]; exact h.hm h.la) hw hwl h1
  rw [hv] at hset
  have hget : ∀ j (hj : j < l.length), l[j] ≠ -1 → (l.set w (v - tkOf (c[a]'h.la) + gvOf (c[a]'h.la)))[j]'(by rw [List.length_set]; exact hj) = l[j] := fun j hj hne => by
    rw [List.getElem_set]
    split
    · rename_i e; subst e; exact absurd h1 hne
    · rfl
  refine ⟨hset, fun j hj => ?_, fun j hj hne => ?_, ?_, h.la, fun ha => ?_, hvp, h.tk, h.hm, fun ha x hx => ?_⟩
  · rcases List.mem_append.1 hj with hj | hj
    · obtain ⟨hj1, hne⟩ := h.todo j hj
      exact ⟨by rw [List.length_set]; exact hj1, by rw [hget j hj1 hne]; exact hne⟩
    · have : j = w := by simpa using hj
      subst this
      exact ⟨by rw [List.length_set]; exact hwl, by rw [List.getElem_set_self]; omega⟩
  · rw [List.length_set] at hj
    by_cases e : j = w
    · exact .inl (by simp [e])
    · have hg : (l.set w (v - tkOf (c[a]'h.la) + gvOf (c[a]'h.la)))[j]'(by rw [List.length_set]; exact hj) = l[j] := by
        rw [List.getElem_set, if_neg (fun e' => e e'.symm)]
      rw [hg] at hne
      rcases h.shut j hj hne with h2 | h2 | h2
      · exact .inl (by simp [h2])
      · exact .inr (.inl (h2.set h.toSome5 (fun _ => hne) hwl h1 _))
      · exact .inr (.inr h2)
  · have h2 := h.many
    have h3 := cnt_set (x := v - tkOf (c[a]'h.la) + gvOf (c[a]'h.la)) hwl h1 (by omega)
    rw [List.length_append, List.length_singleton]
    omega
  · rw [List.length_set] at ha
    rw [hget a ha (by omega)]
    exact hv
  · rcases List.mem_append.1 hx with hx | hx
    · obtain ⟨hp, hx1, e⟩ := h.over ha x hx
      exact ⟨hp, by rw [List.length_set]; exact hx1, by rw [hget _ hx1 (by rw [e]; omega)]; exact e⟩
    · have : x = (w : Int) := by simpa using hx
      subst this
      exact ⟨by omega, by rw [List.length_set]; simpa using hwl, by simp⟩
theorem HIn.same {c : List Ins} {l : List Int} {L : List Nat} {a : Nat} {v : Int} {d : List Int} {w : Nat} (h : HIn c l L a v d) (hwl : w < l.length) (h1 : l[w] = v - tkOf (c[a]'h.la) + gvOf (c[a]'h.la)) : HIn c l L a v (d ++ [(w : Int)]) := by
  refine ⟨h.toSome5, h.todo, h.shut, h.many, h.la, h.here, h.vpos, h.tk, h.hm, fun ha x hx => ?_⟩
  rcases List.mem_append.1 hx with hx | hx
  · exact h.over ha x hx
  · have : x = (w : Int) := by simpa using hx
    subst this
    exact ⟨by omega, by simpa using hwl, by simpa using h1⟩
theorem HIn.bad {c : List Ins} {l : List Int} {L : List Nat} {a : Nat} {v : Int} {d : List Int} {w : Nat} (h : HIn c l L a v d) (hw : (w : Int) ∈ waysOf a (c[a]'h.la)) (hwl : w < l.length) (h1 : l[w] ≠ -1) (h2 : l[w] ≠ v - tkOf (c[a]'h.la) + gvOf (c[a]'h.la)) : Bad c := by
  have hal : a < l.length := by rw [h.len]; exact h.la
  have hv := h.here hal
  have hvp := h.vpos
  have hr := h.sound a hal (by omega)
  rw [hv] at hr
  exact ⟨a, v, hr, h.la, .inr (.inr ⟨h.tk h.la, h.hm h.la, w, l[w], hw, h.sound w hwl h1, h2⟩)⟩
theorem HIn.done {c : List Ins} {l : List Int} {L : List Nat} {a : Nat} {v : Int} (hla : a < c.length) (h : HIn c l L a v (waysOf a c[a])) : HInv c l L := by
  refine ⟨h.toSome5, h.todo, fun j hj hne => ?_, by have := h.many; omega⟩
  rcases h.shut j hj hne with h2 | h2 | h2
  · exact .inl h2
  · exact .inr h2
  · subst h2
    refine .inr fun hj1 hj2 => ?_
    rw [h.here hj1]
    refine ⟨h.tk hj2, h.hm hj2, fun w hw => ?_⟩
    obtain ⟨_, hx, e⟩ := h.over hj2 _ hw
    exact ⟨by simpa using hx, by simpa using e⟩
end Go.Proofs.YtgphigpbgiceiaaGreatDoor
