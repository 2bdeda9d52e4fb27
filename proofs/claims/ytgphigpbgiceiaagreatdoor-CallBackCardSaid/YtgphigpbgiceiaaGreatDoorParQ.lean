/- What call.Parse reads from a call's own text is that call (plain). -/
import Derived.Test.YtgphigpbgiceiaaGreatDoorPk22
import Derived.Test.YtgphigpbgiceiaaGreatDoorClText
namespace Go.Proofs.YtgphigpbgiceiaaGreatDoor
set_option linter.unusedVariables false
set_option linter.unusedSimpArgs false

def redsB : List ByteArray := [⟨#[115, 117, 109]⟩, ⟨#[109, 97, 120]⟩, ⟨#[109, 105, 110]⟩]
def redIdx (w : List UInt8) : Int := max 0 (Lib.idxOfS redsB ⟨w.toArray⟩)
def kindCl (k : Int) : Cl := ⟨k, 0, 0, 0, 0, 0, 0, 0, [], 0, 0⟩
/-- What one word tells, at its place. -/
def stepP (l : List Int) (c : Cl) (k : Nat) (w : List UInt8) : Cl :=
  if l[0]? = some 8 then { c with reqs := c.reqs ++ [intV w] } else match l[k]? with
  | some f => if f = 9 then { c with op := redIdx w } else setF c (intV w) f.toNat
  | none => c
def foldP (l : List Int) : Nat → Cl → List (List UInt8) → Cl
  | _, c, [] => c
  | k, c, w :: ws => foldP l (k + 1) (stepP l c k w) ws
/-- What is read of a text, before it is asked whether that is its own. -/
def wordOf (s : List UInt8) : List UInt8 := (Lib.cut s [40]).1
def wordsOf (s : List UInt8) : List (List UInt8) := Lib.split (Lib.trimSuffix (Lib.cut s [40]).2.1 [41]) [44, 32]
def candP (s : List UInt8) : Cl := foldP ((usesF (callOf ⟨(wordOf s).toArray⟩)).getD []) 0 (kindCl (callOf ⟨(wordOf s).toArray⟩)) (wordsOf s)
theorem foldP_take (l : List Int) : ∀ (ws : List (List UInt8)) (j k : Nat) (c : Cl) (w : List UInt8), ws[k]? = some w → foldP l j c (ws.take (k + 1)) = stepP l (foldP l j c (ws.take k)) (j + k) w
  | [], j, k, c, w, h => by simp at h
  | u :: ws, j, 0, c, w, h => by
    rw [List.getElem?_cons_zero] at h
    cases h
    rfl
  | u :: ws, j, k + 1, c, w, h => by
    rw [List.getElem?_cons_succ] at h
    have ih := foldP_take l ws (j + 1) k (stepP l c j u) w h
    have e : j + 1 + k = j + (k + 1) := by omega
    rw [e] at ih
    exact ih
theorem word_call (k : Int) (h1 : 1 ≤ k) (h2 : k ≤ 22) : callOf ⟨(wordK k).toArray⟩ = k ∧ ∀ b ∈ wordK k, b ≠ 40 := by
  have h : k = 1 ∨ k = 2 ∨ k = 3 ∨ k = 4 ∨ k = 5 ∨ k = 6 ∨ k = 7 ∨ k = 8 ∨ k = 9 ∨ k = 10 ∨ k = 11 ∨ k = 12 ∨ k = 13 ∨ k = 14 ∨ k = 15 ∨ k = 16 ∨ k = 17 ∨ k = 18 ∨ k = 19 ∨ k = 20 ∨ k = 21 ∨ k = 22 := by omega
  rcases h with rfl | rfl | rfl | rfl | rfl | rfl | rfl | rfl | rfl | rfl | rfl | rfl | rfl | rfl | rfl | rfl | rfl | rfl | rfl | rfl | rfl | rfl <;> exact ⟨by decide, by decide⟩
theorem red_read (n : Int) (h0 : 0 ≤ n) (h2 : n ≤ 2) : redIdx (redK n) = n ∧ (∀ b ∈ redK n, b ≠ 44) ∧ redK n ≠ [] := by
  have h : n = 0 ∨ n = 1 ∨ n = 2 := by omega
  rcases h with rfl | rfl | rfl <;> exact ⟨by decide, by decide, by decide⟩
theorem itoa_comma (n : Int) : ∀ b ∈ Lib.itoa n, b ≠ 44 := fun b hb e => by
  have := itoa_bytes n b hb
  subst e
  simp at this
/-- The words between the brackets. -/
def pieces (c : Cl) (ul : List Int) : List (List UInt8) := (clNums c ul).map Lib.itoa ++ (if ul.contains 9 then [redK c.op] else [])
theorem clText_pieces (c : Cl) (ul : List Int) (hne : clNums c ul ≠ []) : clText c ul = wordK c.kind ++ ([40] ++ (Lib.join (pieces c ul) [44, 32] ++ [41])) := by
  unfold clText pieces
  cases h : ul.contains 9
  · simp
  · rw [if_pos rfl, if_pos rfl, join_snoc _ _ _ (by simpa using hne)]
    simp
theorem clNums_ne {c : Cl} (hc : c.Ok) (h : textB c = true) : clNums c ((usesF c.kind).getD []) ≠ [] := by
  obtain ⟨hs, ht, ho, h8⟩ := textB_parts h
  obtain ⟨hn0, _, _⟩ := uses_some hs
  rcases uses_shape c.kind with hu | hu
  · have h9 : ∃ f ∈ (usesF c.kind).getD [], f ≠ 9 := by
      revert hs
      unfold usesF
      repeat' split
      all_goals simp
    obtain ⟨f, hf, hf9⟩ := h9
    intro e
    have : getF c f.toNat ∈ clNums c ((usesF c.kind).getD []) := by
      unfold clNums
      rw [List.mem_flatMap]
      exact ⟨f, hf, by rw [if_neg (hu f hf), if_neg hf9]; simp⟩
    rw [e] at this
    cases this
  · have hl := h8 (by rw [hu]; rfl)
    intro e
    rw [hu] at e
    have e2 : c.reqs = [] := by simpa [clNums] using e
    unfold listedB at hl
    rw [e2] at hl
    split at hl <;> simp at hl
theorem foldP_reqs (l : List Int) (h : l[0]? = some 8) : ∀ (ns : List Int) (k : Nat) (c : Cl), (∀ n ∈ ns, I64 n) → foldP l k c (ns.map Lib.itoa) = { c with reqs := c.reqs ++ ns }
  | [], k, c, _ => by simp [foldP]
  | n :: ns, k, c, hn => by
    have h1 := hn n (by simp)
    rw [List.map_cons, foldP, foldP_reqs l h ns (k + 1) _ (fun m hm => hn m (List.mem_cons_of_mem _ hm))]
    unfold stepP
    rw [if_pos h, intV_itoa n h1.1 h1.2]
    simp
theorem candP_text (c : Cl) (hc : c.Ok) (h : textB c = true) : candP (clText c ((usesF c.kind).getD [])) = c := by
  obtain ⟨hs, ht, ho, h8⟩ := textB_parts h
  obtain ⟨hn0, hk1, hk22⟩ := uses_some hs
  obtain ⟨hw, hw40⟩ := word_call c.kind hk1 hk22
  have go : ∀ lf : List Int, usesF c.kind = some lf → clNums c lf ≠ [] → c = trimF c → foldP lf 0 (kindCl c.kind) (pieces c lf) = trimF c → candP (clText c ((usesF c.kind).getD [])) = c := by
    intro lf hlf hne hT hf
    rw [hlf, Option.getD_some, clText_pieces c lf hne]
    unfold candP wordOf wordsOf
    rw [cut_hit16 40 _ _ hw40]
    simp only [hw, hlf, Option.getD_some, trim_close]
    have hp : pieces c lf ≠ [] := by
      unfold pieces
      simp [hne]
    obtain ⟨x, xs, hx⟩ : ∃ x xs, pieces c lf = x :: xs := by
      cases hq : pieces c lf with
      | nil => exact absurd hq hp
      | cons x xs => exact ⟨x, xs, rfl⟩
    have hcm : ∀ y ∈ pieces c lf, ∀ b ∈ y, b ≠ 44 := by
      intro y hy
      unfold pieces at hy
      rcases List.mem_append.1 hy with hy | hy
      · obtain ⟨n, _, rfl⟩ := List.mem_map.1 hy
        exact itoa_comma n
      · split at hy
        · rw [List.mem_singleton.1 hy]
          exact (red_read c.op hc.op.1 ho).2.1
        · simp at hy
    rw [hx] at hcm
    rw [hx, split_join16 x xs hcm, ← hx, hf, ← hT]
  have i1 := intV_itoa c.comm hc.comm.1 hc.comm.2
  have i2 := intV_itoa c.peer hc.peer.1 hc.peer.2
  have i3 := intV_itoa c.tag hc.tag.1 hc.tag.2
  have i4 := intV_itoa c.value hc.value.1 hc.value.2
  have i5 := intV_itoa c.size hc.size.1 hc.size.2
  have i6 := intV_itoa c.root hc.root.1 hc.root.2
  have i7 := intV_itoa c.color hc.color.1 hc.color.2
  have i8 := intV_itoa c.key hc.key.1 hc.key.2
  have ir := (red_read c.op hc.op.1 ho).1
  have hm : c.op % 256 = c.op := by have := hc.op; omega
  by_cases k1 : c.kind = 1 ∨ c.kind = 2 ∨ c.kind = 3 ∨ c.kind = 4 ∨ c.kind = 5
  · have hF : usesF c.kind = some [0, 1, 2, 3, 4] := by unfold usesF; rw [if_pos k1]
    exact go _ hF (by simp [clNums]) ht (by unfold trimF; rw [hF]; simp [pieces, clNums, getF, foldP, stepP, setF, kindCl, stepF, initF, i1, i2, i3, i4, i5])
  by_cases k2 : c.kind = 6 ∨ c.kind = 7 ∨ c.kind = 13 ∨ c.kind = 14
  · have hF : usesF c.kind = some [0, 1, 2] := by unfold usesF; rw [if_neg k1, if_pos k2]
    exact go _ hF (by simp [clNums]) ht (by unfold trimF; rw [hF]; simp [pieces, clNums, getF, foldP, stepP, setF, kindCl, stepF, initF, i1, i2, i3])
  by_cases k3 : c.kind = 8 ∨ c.kind = 9 ∨ c.kind = 10 ∨ c.kind = 11 ∨ c.kind = 12
  · have hF : usesF c.kind = some [8] := by unfold usesF; rw [if_neg k1, if_neg k2, if_pos k3]
    have hl := h8 (by rw [hF]; rfl)
    have hne : c.reqs ≠ [] := by
      intro e
      unfold listedB at hl
      rw [e] at hl
      split at hl <;> simp at hl
    refine go _ hF (by simpa [clNums] using hne) ht ?_
    have hp : pieces c [8] = c.reqs.map Lib.itoa := by simp [pieces, clNums]
    rw [hp, foldP_reqs [8] rfl c.reqs 0 _ hc.reqs]
    unfold trimF
    rw [hF]
    simp [kindCl, stepF, initF, setF]
  by_cases k4 : c.kind = 15 ∨ c.kind = 20 ∨ c.kind = 22
  · have hF : usesF c.kind = some [0] := by unfold usesF; rw [if_neg k1, if_neg k2, if_neg k3, if_pos k4]
    exact go _ hF (by simp [clNums]) ht (by unfold trimF; rw [hF]; simp [pieces, clNums, getF, foldP, stepP, setF, kindCl, stepF, initF, i1])
  by_cases k5 : c.kind = 16 ∨ c.kind = 19
  · have hF : usesF c.kind = some [0, 5, 3] := by unfold usesF; rw [if_neg k1, if_neg k2, if_neg k3, if_neg k4, if_pos k5]
    exact go _ hF (by simp [clNums]) ht (by unfold trimF; rw [hF]; simp [pieces, clNums, getF, foldP, stepP, setF, kindCl, stepF, initF, i1, i6, i4])
  by_cases k6 : c.kind = 17
  · have hF : usesF c.kind = some [0, 5, 3, 9] := by unfold usesF; rw [if_neg k1, if_neg k2, if_neg k3, if_neg k4, if_neg k5, if_pos k6]
    exact go _ hF (by simp [clNums]) ht (by unfold trimF; rw [hF]; simp [pieces, clNums, getF, foldP, stepP, setF, kindCl, stepF, initF, i1, i6, i4, ir, hm])
  by_cases k7 : c.kind = 18
  · have hF : usesF c.kind = some [0, 3, 9] := by unfold usesF; rw [if_neg k1, if_neg k2, if_neg k3, if_neg k4, if_neg k5, if_neg k6, if_pos k7]
    exact go _ hF (by simp [clNums]) ht (by unfold trimF; rw [hF]; simp [pieces, clNums, getF, foldP, stepP, setF, kindCl, stepF, initF, i1, i4, ir, hm])
  by_cases k8 : c.kind = 21
  · have hF : usesF c.kind = some [0, 6, 7] := by unfold usesF; rw [if_neg k1, if_neg k2, if_neg k3, if_neg k4, if_neg k5, if_neg k6, if_neg k7, if_pos k8]
    exact go _ hF (by simp [clNums]) ht (by unfold trimF; rw [hF]; simp [pieces, clNums, getF, foldP, stepP, setF, kindCl, stepF, initF, i1, i7, i8])
  have h0 : usesF c.kind = none := by unfold usesF; rw [if_neg k1, if_neg k2, if_neg k3, if_neg k4, if_neg k5, if_neg k6, if_neg k7, if_neg k8]
  rw [h0] at hs
  cases hs
end Go.Proofs.YtgphigpbgiceiaaGreatDoor
