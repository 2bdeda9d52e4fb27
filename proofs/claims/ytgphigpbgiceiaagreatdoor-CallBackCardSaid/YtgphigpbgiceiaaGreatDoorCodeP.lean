/- Plain words of chapter 05: instructions, what they take and give, where they go on, what is whole; heights, said outright. -/
namespace Go.Proofs.YtgphigpbgiceiaaGreatDoor

structure Ins where
  op : Int
  n : Int
structure Cp where
  code : List Ins
  vars : Int
  arrays : List Int
def Ins.Ok (i : Ins) : Prop := (0 ≤ i.op ∧ i.op ≤ 255) ∧ (-9223372036854775808 ≤ i.n ∧ i.n ≤ 9223372036854775807)
def argsTab5 : List Int := [5, 5, 5, 5, 5, 3, 3, 1, -1, -1, 1, -1, 3, 3, 1, 3, 3, 2, 3, 1, 3, 1]
def lo5 (k : Int) : Int := if k < 1 then 0 else if 22 < k then 0 else if argsTab5.getD (k - 1).toNat 0 < 0 then 1 else argsTab5.getD (k - 1).toNat 0
def hi5 (k : Int) : Int := if k < 1 then 0 else if 22 < k then 0 else if argsTab5.getD (k - 1).toNat 0 < 0 then 8 else argsTab5.getD (k - 1).toNat 0
/-- How many arguments a call's number tells; -1: it is none's. -/
def callMany (n : Int) : Int :=
  if n < 0 then -1 else if 3071 < n then -1 else
  if hi5 (n % 32) = 0 then -1 else if n % 1024 / 32 < lo5 (n % 32) then -1 else if hi5 (n % 32) < n % 1024 / 32 then -1 else
  if 1023 < n then (if n % 32 = 17 then n % 1024 / 32 else if n % 32 = 18 then n % 1024 / 32 else -1) else n % 1024 / 32
def tkTab : List Int := [0, 0, 1, 1, 2, 1, 0, 1, 1, 2, 2, 2, 2, 2, 2, 2, 2, 2, 2, 2, 1, 0, 1, 1, 1, 1, 1, 0, 0]
def gvTab : List Int := [1, 1, 0, 1, 0, 1, 1, 1, 1, 1, 1, 1, 1, 1, 1, 1, 1, 1, 1, 1, 1, 0, 0, 0, 0, 2, 0, 0, 0]
def tkOf (i : Ins) : Int := if i.op = 28 then callMany i.n else if i.op < 1 then 2 else if 29 < i.op then 2 else tkTab.getD (i.op - 1).toNat 0
def gvOf (i : Ins) : Int := if i.op < 1 then 1 else if 29 < i.op then 1 else gvTab.getD (i.op - 1).toNat 0
def inB (n m : Int) : Bool := decide (0 ≤ n) && decide (n < m)
/-- May an instruction be: with so many variables, arrays, instructions. -/
def fitsOf (vars narr ncode : Int) (i : Ins) : Bool :=
  if i.op = 1 then true
  else if i.op = 2 ∨ i.op = 3 then inB i.n vars
  else if i.op = 4 ∨ i.op = 5 then inB i.n narr
  else if i.op = 7 then inB i.n 10
  else if i.op = 22 ∨ i.op = 23 ∨ i.op = 24 then inB i.n ncode
  else if i.op = 28 then decide (0 ≤ callMany i.n)
  else decide (1 ≤ i.op) && decide (i.op ≤ 29) && (i.n == 0)
def waysOf (at_ : Int) (i : Ins) : List Int :=
  if i.op = 29 then [] else if i.op = 22 then [i.n] else if i.op = 23 ∨ i.op = 24 then [at_ + 1, i.n] else [at_ + 1]
/-- Are arrays' places as they may be, so many having been counted? -/
def arraysOk : Int → List Int → Bool
  | _, [] => true
  | c, n :: r => decide (1 ≤ n) && decide (n ≤ 1000 - c) && arraysOk (c + n) r
def Cp.fits (p : Cp) (i : Ins) : Bool := fitsOf p.vars p.arrays.length p.code.length i
def Cp.whole (p : Cp) : Bool :=
  arraysOk 0 p.arrays && decide (0 < p.code.length) && decide (p.code.length ≤ 4000) && decide (0 ≤ p.vars) && decide (p.vars ≤ 64) && p.code.all p.fits && (p.code.getLast?.any fun i => i.op == 29)
theorem Cp.whole_parts {p : Cp} (h : p.whole = true) : arraysOk 0 p.arrays = true ∧ 0 < p.code.length ∧ p.code.length ≤ 4000 ∧ 0 ≤ p.vars ∧ p.vars ≤ 64 ∧ (∀ i ∈ p.code, p.fits i = true) ∧ (∀ hn : p.code.length - 1 < p.code.length, p.code[p.code.length - 1].op = 29) := by
  unfold Cp.whole at h
  simp only [Bool.and_eq_true, decide_eq_true_eq, List.all_eq_true] at h
  obtain ⟨⟨⟨⟨⟨⟨h1, h2⟩, h3⟩, h4⟩, h5⟩, h6⟩, h7⟩ := h
  refine ⟨h1, h2, h3, h4, h5, h6, fun hn => ?_⟩
  rw [List.getLast?_eq_getElem?, List.getElem?_eq_getElem hn] at h7
  simpa using h7
/-- What may be come to, and how high. -/
inductive Reach (c : List Ins) : Nat → Int → Prop
  | start : Reach c 0 0
  | step {j : Nat} {h : Int} (w : Nat) (hj : j < c.length) (hr : Reach c j h) (ht : tkOf c[j] ≤ h) (hm : h - tkOf c[j] + gvOf c[j] ≤ 200) (hw : (w : Int) ∈ waysOf j c[j]) : Reach c w (h - tkOf c[j] + gvOf c[j])
/-- A place is left rightly. -/
def Shut (c : List Ins) (l : List Int) (j : Nat) : Prop :=
  ∀ (hj : j < l.length) (hj2 : j < c.length), tkOf c[j] ≤ l[j] ∧ l[j] - tkOf c[j] + gvOf c[j] ≤ 200 ∧ ∀ w : Nat, (w : Int) ∈ waysOf j c[j] → ∃ hw : w < l.length, l[w] = l[j] - tkOf c[j] + gvOf c[j]
/-- Heights so far. -/
structure Some5 (c : List Ins) (l : List Int) : Prop where
  len : l.length = c.length
  zero : ∀ h0 : 0 < l.length, l[0] = 0
  sound : ∀ j (hj : j < l.length), l[j] ≠ -1 → Reach c j l[j]
/-- These are the heights. -/
structure Told (c : List Ins) (l : List Int) : Prop extends Some5 c l where
  closed : ∀ j (hj : j < l.length), l[j] ≠ -1 → Shut c l j
/-- There are none. -/
def Bad (c : List Ins) : Prop := ∃ j h, Reach c j h ∧ ∃ hj : j < c.length, (h < tkOf c[j] ∨ 200 < h - tkOf c[j] + gvOf c[j] ∨ (tkOf c[j] ≤ h ∧ h - tkOf c[j] + gvOf c[j] ≤ 200 ∧ ∃ (w : Nat) (h' : Int), (w : Int) ∈ waysOf j c[j] ∧ Reach c w h' ∧ h' ≠ h - tkOf c[j] + gvOf c[j]))
theorem fits_tk {p : Cp} {i : Ins} (h : p.fits i = true) : 0 ≤ tkOf i := by
  unfold Cp.fits fitsOf at h
  unfold tkOf
  by_cases a : i.op = 28
  · rw [if_pos a]
    rw [if_neg (by omega), if_neg (by omega), if_neg (by omega), if_neg (by omega), if_neg (by omega), if_pos a] at h
    simpa using h
  · rw [if_neg a]
    split
    · decide
    · split
      · decide
      · have : ∀ n : Nat, 0 ≤ tkTab.getD n 0 := fun n => by
          rw [List.getD_eq_getElem?_getD]
          match n with
          | 0 | 1 | 2 | 3 | 4 | 5 | 6 | 7 | 8 | 9 | 10 | 11 | 12 | 13 | 14 | 15 | 16 | 17 | 18 | 19 | 20 | 21 | 22 | 23 | 24 | 25 | 26 | 27 | 28 => decide
          | n + 29 => simp [tkTab]
        exact this _
theorem gv_pos (i : Ins) : 0 ≤ gvOf i ∧ gvOf i ≤ 2 := by
  unfold gvOf
  split
  · decide
  · split
    · decide
    · have : ∀ n : Nat, 0 ≤ gvTab.getD n 0 ∧ gvTab.getD n 0 ≤ 2 := fun n => by
        rw [List.getD_eq_getElem?_getD]
        match n with
        | 0 | 1 | 2 | 3 | 4 | 5 | 6 | 7 | 8 | 9 | 10 | 11 | 12 | 13 | 14 | 15 | 16 | 17 | 18 | 19 | 20 | 21 | 22 | 23 | 24 | 25 | 26 | 27 | 28 => decide
        | n + 29 => simp [gvTab]
      exact this _
theorem Reach.pos {c : List Ins} {j : Nat} {h : Int} (hr : Reach c j h) : 0 ≤ h := by
  induction hr with
  | start => decide
  | @step j h w hj hr ht hm hw ih => have := gv_pos c[j]; omega
theorem Told.reach {c : List Ins} {l : List Int} (ht : Told c l) (h0 : 0 < l.length) {j : Nat} {h : Int} (hr : Reach c j h) : ∃ hj : j < l.length, l[j] = h := by
  induction hr with
  | start => exact ⟨h0, ht.zero h0⟩
  | @step j h w hj hr hk hm hw ih =>
    obtain ⟨hj2, e⟩ := ih
    have hp := hr.pos
    obtain ⟨_, _, h3⟩ := ht.closed j hj2 (by omega) hj2 hj
    obtain ⟨hw2, e2⟩ := h3 w hw
    exact ⟨hw2, by rw [e2, e]⟩
theorem Told.one {c : List Ins} {l m : List Int} (h1 : Told c l) (h2 : Told c m) : l = m := by
  refine List.ext_getElem (by rw [h1.len, h2.len]) fun j hj hj2 => ?_
  by_cases a : l[j] = -1
  · by_cases b : m[j] = -1
    · rw [a, b]
    · obtain ⟨_, e⟩ := h1.reach (by omega) (h2.sound j hj2 b)
      exact e
  · obtain ⟨_, e⟩ := h2.reach (by omega) (h1.sound j hj a)
    exact e.symm
theorem Told.notBad {c : List Ins} {l : List Int} (ht : Told c l) (h0 : 0 < l.length) : ¬ Bad c := by
  rintro ⟨j, h, hr, hj, hb⟩
  obtain ⟨hj2, e⟩ := ht.reach h0 hr
  have hp := hr.pos
  obtain ⟨h1, h2, h3⟩ := ht.closed j hj2 (by omega) hj2 hj
  rw [e] at h1 h2 h3
  rcases hb with hb | hb | ⟨_, _, w, h', hw, hr', hne⟩
  · omega
  · omega
  · obtain ⟨hw2, e2⟩ := h3 w hw
    obtain ⟨hw3, e3⟩ := ht.reach h0 hr'
    exact hne (by rw [← e3, e2])
/-- A program that may be. -/
def Cp.May (p : Cp) : Prop := p.whole = true ∧ ∃ l, Told p.code l
theorem Cp.may_not {p : Cp} (h : p.whole = false ∨ Bad p.code) : ¬ p.May := by
  rintro ⟨hw, l, hl⟩
  rcases h with h | h
  · rw [h] at hw; cases hw
  · exact hl.notBad (by rw [hl.len]; exact (Cp.whole_parts hw).2.1) h
/-- A way's next place lies in the code. -/
theorem ways_in {p : Cp} (hw : p.whole = true) {j : Nat} (hj : j < p.code.length) {x : Int} (hx : x ∈ waysOf j p.code[j]) : 0 ≤ x ∧ x < p.code.length := by
  obtain ⟨_, h0, _, _, _, hf, hlast⟩ := Cp.whole_parts hw
  have hfi := hf _ (List.getElem_mem hj)
  have hl := hlast (by omega)
  have hnx : p.code[j].op ≠ 29 → (j : Int) + 1 < p.code.length := fun h => by
    by_cases e : j = p.code.length - 1
    · subst e
      exact absurd hl h
    · omega
  unfold waysOf at hx
  unfold Cp.fits fitsOf inB at hfi
  generalize p.code[j] = i at *
  by_cases a : i.op = 29
  · rw [if_pos a] at hx
    cases hx
  rw [if_neg a] at hx
  have hnx := hnx a
  by_cases b : i.op = 22
  · rw [if_pos b] at hx
    rw [if_neg (by omega), if_neg (by omega), if_neg (by omega), if_neg (by omega), if_pos (by omega)] at hfi
    simp only [Bool.and_eq_true, decide_eq_true_eq] at hfi
    simp only [List.mem_singleton] at hx
    subst hx
    exact hfi
  rw [if_neg b] at hx
  by_cases c : i.op = 23 ∨ i.op = 24
  · rw [if_pos c] at hx
    rw [if_neg (by omega), if_neg (by omega), if_neg (by omega), if_neg (by omega), if_pos (by omega)] at hfi
    simp only [Bool.and_eq_true, decide_eq_true_eq] at hfi
    simp only [List.mem_cons, List.not_mem_nil, or_false] at hx
    rcases hx with rfl | rfl
    · omega
    · exact hfi
  · rw [if_neg c] at hx
    simp only [List.mem_singleton] at hx
    subst hx
    omega
/-! Steps of an exploration. -/
def cnt (l : List Int) : Nat := l.count (-1)
theorem cnt_set {l : List Int} {w : Nat} {x : Int} (hw : w < l.length) (h1 : l[w] = -1) (hx : x ≠ -1) : cnt (l.set w x) + 1 = cnt l := by
  have hpos : 0 < l.count (-1) := List.count_pos_iff.2 (h1 ▸ List.getElem_mem hw)
  unfold cnt
  rw [List.count_set hw, h1]
  have : (x == -1) = false := by simpa using hx
  rw [this]
  simp
  omega
theorem cnt_le (l : List Int) : cnt l ≤ l.length := List.count_le_length
theorem Some5.set {c : List Ins} {l : List Int} (h : Some5 c l) {j : Nat} (hj : j < l.length) (hj2 : j < c.length) (hne : l[j] ≠ -1) (ht : tkOf c[j] ≤ l[j]) (hm : l[j] - tkOf c[j] + gvOf c[j] ≤ 200) {w : Nat} (hw : (w : Int) ∈ waysOf j c[j]) (hwl : w < l.length) (h1 : l[w] = -1) :
    Some5 c (l.set w (l[j] - tkOf c[j] + gvOf c[j])) := by
  refine ⟨by rw [List.length_set]; exact h.len, fun h0 => ?_, fun k hk hk1 => ?_⟩
  · rw [List.length_set] at h0
    have hz := h.zero h0
    rw [List.getElem_set]
    split
    · rename_i e; subst e; rw [hz] at h1; cases h1
    · exact hz
  · rw [List.length_set] at hk
    rw [List.getElem_set] at hk1 ⊢
    split
    · rename_i e; subst e
      exact Reach.step w hj2 (h.sound j hj hne) ht hm hw
    · rename_i e
      rw [if_neg e] at hk1
      exact h.sound k hk hk1
theorem Some5.pos {c : List Ins} {l : List Int} (h : Some5 c l) {j : Nat} (hj : j < l.length) (hne : l[j] ≠ -1) : 0 ≤ l[j] := (h.sound j hj hne).pos
theorem Shut.set {c : List Ins} {l : List Int} {j : Nat} (h : Shut c l j) (hs : Some5 c l) (hne : ∀ hj : j < l.length, l[j] ≠ -1) {w : Nat} (hwl : w < l.length) (h1 : l[w] = -1) (x : Int) : Shut c (l.set w x) j := by
  intro hj hj2
  rw [List.length_set] at hj
  have hn := hne hj
  have e : (l.set w x)[j]'(by rw [List.length_set]; exact hj) = l[j] := by
    rw [List.getElem_set]
    split
    · rename_i e; subst e; exact absurd h1 hn
    · rfl
  rw [e]
  obtain ⟨a, b, d⟩ := h hj hj2
  refine ⟨a, b, fun v hv => ?_⟩
  obtain ⟨hv1, ev⟩ := d v hv
  have hg := gv_pos c[j]
  have hp := hs.pos hj hn
  refine ⟨by rw [List.length_set]; exact hv1, ?_⟩
  rw [List.getElem_set]
  split
  · rename_i e; subst e; rw [h1] at ev; omega
  · exact ev
theorem Some5.start (c : List Ins) : Some5 c ((List.replicate c.length (-1)).set 0 0) := by
  refine ⟨by simp, fun _ => by simp, fun j hj hne => ?_⟩
  rw [List.getElem_set] at hne ⊢
  split
  · rename_i e; subst e; exact Reach.start
  · rename_i e; rw [if_neg e] at hne; simp at hne
theorem cnt_start {n : Nat} (h0 : 0 < n) : cnt ((List.replicate n (-1)).set 0 0) + 1 = n := by
  rw [cnt_set (by simpa using h0) (by simp) (by decide)]
  unfold cnt
  simp
/-! What laws ask of heights. -/
theorem Told.of_eq {c c' : List Ins} {l : List Int} {a : Nat} (ht : Told c l) (hlen : c'.length = c.length) (h0 : 0 < c.length) (ha : ∀ h : a < l.length, l[a] = -1) (hc : ∀ j (h1 : j < c.length) (h2 : j < c'.length), j ≠ a → c'[j] = c[j]) : Told c' l := by
  have hne : ∀ {j h}, Reach c j h → j ≠ a := fun {j h} hr e => by
    subst e
    obtain ⟨hj, e⟩ := ht.reach (by rw [ht.len]; exact h0) hr
    have := hr.pos
    rw [ha hj] at e
    omega
  have hre : ∀ {j h}, Reach c j h → Reach c' j h := fun {j h} hr => by
    induction hr with
    | start => exact .start
    | @step j h w hj hr hk hm hw ih =>
      have e := hc j hj (by omega) (hne hr)
      have := Reach.step (c := c') (h := h) w (by omega) ih (by rw [e]; exact hk) (by rw [e]; exact hm) (by rw [e]; exact hw)
      rw [e] at this
      exact this
  refine ⟨⟨by rw [ht.len, hlen], ht.zero, fun j hj h1 => hre (ht.sound j hj h1)⟩, fun j hj h1 => ?_⟩
  intro _ hj2
  have hja : j ≠ a := fun e => by subst e; exact h1 (ha hj)
  rw [hc j (by omega) hj2 hja]
  exact ht.closed j hj h1 hj (by omega)
theorem arraysOk_append : ∀ (l : List Int) (c n : Int), arraysOk c (l ++ [n]) = (arraysOk c l && (decide (1 ≤ n) && decide (n ≤ 1000 - (c + l.sum))))
  | [], c, n => by simp [arraysOk]
  | x :: l, c, n => by
    rw [List.cons_append, arraysOk, arraysOk, arraysOk_append l, List.sum_cons]
    simp only [Bool.and_assoc]
    rw [show c + x + l.sum = c + (x + l.sum) by omega]
theorem arraysOk_sum : ∀ (l : List Int) (c : Int), arraysOk c l = true → 0 ≤ c → c ≤ 1000 → 0 ≤ l.sum ∧ c + l.sum ≤ 1000
  | [], c, _, _, _ => by simp; omega
  | x :: l, c, h, h0, h1 => by
    simp only [arraysOk, Bool.and_eq_true, decide_eq_true_eq] at h
    have := arraysOk_sum l (c + x) h.2 (by omega) (by omega)
    rw [List.sum_cons]
    omega
theorem arraysOk_take : ∀ (l : List Int) (c : Int) (k : Nat), arraysOk c l = true → arraysOk c (l.take k) = true
  | [], c, k, h => by simpa using h
  | x :: l, c, 0, h => rfl
  | x :: l, c, k + 1, h => by
    simp only [arraysOk, Bool.and_eq_true, decide_eq_true_eq, List.take_succ_cons] at h ⊢
    exact ⟨h.1, arraysOk_take l _ k h.2⟩
theorem arraysOk_drop : ∀ (l : List Int) (c : Int) (k : Nat) (hk : k < l.length), arraysOk c (l.take k) = true → arraysOk c l = (decide (1 ≤ l[k]) && decide (l[k] ≤ 1000 - (c + (l.take k).sum)) && arraysOk (c + (l.take k).sum + l[k]) (l.drop (k + 1)))
  | x :: l, c, 0, hk, h => by simp [arraysOk]
  | x :: l, c, k + 1, hk, h => by
    simp only [List.take_succ_cons, arraysOk, Bool.and_eq_true, decide_eq_true_eq] at h
    rw [arraysOk, arraysOk_drop l (c + x) k (by simpa using hk) h.2]
    simp only [List.getElem_cons_succ, List.take_succ_cons, List.sum_cons, List.drop_succ_cons]
    rw [show c + x + (l.take k).sum = c + (x + (l.take k).sum) by omega]
    simp only [h.1.1, h.1.2, decide_true, Bool.true_and]
    rfl
theorem fits_more {v a n v' a' : Int} {i : Ins} (h : fitsOf v a n i = true) (hv : v ≤ v') (ha : a ≤ a') : fitsOf v' a' n i = true := by
  unfold fitsOf inB at h ⊢
  by_cases e1 : i.op = 1
  · rw [if_pos e1]
  rw [if_neg e1] at h ⊢
  by_cases e2 : i.op = 2 ∨ i.op = 3
  · rw [if_pos e2] at h ⊢
    simp only [Bool.and_eq_true, decide_eq_true_eq] at h ⊢
    omega
  rw [if_neg e2] at h ⊢
  by_cases e3 : i.op = 4 ∨ i.op = 5
  · rw [if_pos e3] at h ⊢
    simp only [Bool.and_eq_true, decide_eq_true_eq] at h ⊢
    omega
  rw [if_neg e3] at h ⊢
  exact h
end Go.Proofs.YtgphigpbgiceiaaGreatDoor
