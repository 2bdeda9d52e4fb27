/- Plain words on places: the byte of a text at which a place is; blanks and remarks alone. -/
import Derived.Test.YtjfoinikdifgmaaDoorRefLaws
namespace Go.Proofs.YtjfoinikdifgmaaDoor
set_option linter.unusedVariables false
set_option linter.unusedSimpArgs false

/-- The place behind the n-th byte 10, and how many are left. -/
def offF : List UInt8 → Nat → Nat × Nat
  | _, 0 => (0, 0)
  | [], n + 1 => (0, n + 1)
  | c :: r, n + 1 => ((offF r (if c.toNat = 10 then n else n + 1)).1 + 1, (offF r (if c.toNat = 10 then n else n + 1)).2)
def offOf (l : List UInt8) (line col : Int) : Int :=
  if (offF l (line - 1).toNat).2 ≠ 0 ∨ col < 1 ∨ (l.length : Int) - (offF l (line - 1).toNat).1 + 1 < col then -1 else (offF l (line - 1).toNat).1 + col - 1
theorem offF_le : ∀ (l : List UInt8) (n : Nat), (offF l n).1 ≤ l.length
  | [], 0 => by simp [offF]
  | _ :: _, 0 => by simp [offF]
  | [], n + 1 => by simp [offF]
  | c :: r, n + 1 => by
    have := offF_le r (if c.toNat = 10 then n else n + 1)
    simp only [offF, List.length_cons]
    omega
theorem adv_shift : ∀ (p : List UInt8) (a b d : Int), adv p (a + d) b = ((adv p a b).1 + d, (adv p a b).2)
  | [], a, b, d => rfl
  | c :: p, a, b, d => by
    simp only [adv]
    split
    · have e : a + d + 1 = a + 1 + d := by omega
      rw [e, adv_shift p]
    · rw [adv_shift p]
theorem off_adv : ∀ (p q : List UInt8) (b : Int), 1 ≤ b →
    (offF (p ++ q) ((adv p 1 b).1 - 1).toNat).2 = 0 ∧ ((offF (p ++ q) ((adv p 1 b).1 - 1).toNat).1 : Int) + (adv p 1 b).2 - 1 = p.length + (if (adv p 1 b).1 = 1 then b - 1 else 0)
  | [], q, b, hb => by
    have e : ((adv [] 1 b).1 - 1).toNat = 0 := rfl
    rw [e]
    cases q <;> simp [offF, adv] 
  | c :: p, q, b, hb => by
    have hbd := adv_bd1 p 1 1 (by omega) (by omega)
    have hbd2 := adv_bd1 p 1 (b + 1) (by omega) (by omega)
    by_cases h : c = 10
    · subst h
      have e : adv (10 :: p) 1 b = ((adv p 1 1).1 + 1, (adv p 1 1).2) := by
        simp only [adv, if_true]
        exact adv_shift p 1 1 1
      obtain ⟨h1, h2⟩ := off_adv p q 1 (by omega)
      obtain ⟨m, hm⟩ : ∃ m : Nat, (adv p 1 1).1 = m + 1 := ⟨((adv p 1 1).1 - 1).toNat, by omega⟩
      have e2 : ((adv p 1 1).1 - 1).toNat = m := by omega
      rw [e2] at h1 h2
      have e3 : ((adv p 1 1).1 + 1 - 1).toNat = m + 1 := by omega
      rw [e]
      simp only [e3, List.cons_append, offF]
      have e4 : (10 : UInt8).toNat = 10 := rfl
      rw [e4, if_pos rfl, if_neg (by omega)]
      refine ⟨h1, ?_⟩
      have h3 : (if (adv p 1 1).1 = 1 then (1 : Int) - 1 else 0) = 0 := by split <;> rfl
      rw [h3] at h2
      simp only [List.length_cons]
      omega
    · have e : adv (c :: p) 1 b = adv p 1 (b + 1) := by simp only [adv, if_neg h]
      have hn : ¬ c.toNat = 10 := fun e => h (UInt8.toNat_inj.1 e)
      obtain ⟨h1, h2⟩ := off_adv p q (b + 1) (by omega)
      rw [e]
      by_cases h0 : (adv p 1 (b + 1)).1 = 1
      · rw [h0] at h1 h2 ⊢
        have e2 : ((1 : Int) - 1).toNat = 0 := rfl
        rw [e2] at h1 h2 ⊢
        have e3 : ∀ l : List UInt8, offF l 0 = (0, 0) := fun l => by cases l <;> rfl
        rw [e3] at h2 ⊢
        simp only [if_true, List.length_cons] at h2 ⊢
        refine ⟨trivial, ?_⟩
        omega
      · obtain ⟨m, hm⟩ : ∃ m : Nat, (adv p 1 (b + 1)).1 = m + 2 := ⟨((adv p 1 (b + 1)).1 - 2).toNat, by omega⟩
        have e2 : ((adv p 1 (b + 1)).1 - 1).toNat = m + 1 := by omega
        rw [e2] at h1 h2 ⊢
        rw [if_neg h0] at h2 ⊢
        simp only [List.cons_append, offF, if_neg hn]
        refine ⟨h1, ?_⟩
        simp only [List.length_cons]
        omega
theorem off_place (p q : List UInt8) : offOf (p ++ q) (adv p 1 1).1 (adv p 1 1).2 = p.length := by
  obtain ⟨h1, h2⟩ := off_adv p q 1 (by omega)
  have hb := adv_bd1 p 1 1 (by omega) (by omega)
  have hle := offF_le (p ++ q) ((adv p 1 1).1 - 1).toNat
  have h3 : (if (adv p 1 1).1 = 1 then (1 : Int) - 1 else 0) = 0 := by split <;> rfl
  rw [h3] at h2
  unfold offOf
  rw [if_neg]
  · omega
  · rintro (h | h | h)
    · exact h h1
    · omega
    · rw [List.length_append] at h
      omega

/-- Blanks and remarks alone: the flag behind them. -/
def gapR : Bool → List UInt8 → Option Bool
  | f, [] => some f
  | f, c :: r => if c.toNat = 10 then gapR false r else if c.toNat = 35 then gapR true r else if !f && (c.toNat != 32) && (c.toNat != 9) && (c.toNat != 13) then none else gapR f r
def gapOf (l : List UInt8) : Bool := (gapR false l).isSome
theorem gapR_append : ∀ (x y : List UInt8) (f : Bool), gapR f (x ++ y) = (gapR f x).bind fun g => gapR g y
  | [], y, f => rfl
  | c :: x, y, f => by
    simp only [List.cons_append, gapR]
    split
    · exact gapR_append x y false
    · split
      · exact gapR_append x y true
      · split
        · rfl
        · exact gapR_append x y f
/-- A remark: whatever it holds but a byte 10. -/
theorem gapR_true : ∀ (x : List UInt8), (∀ c ∈ x, c ≠ 10) → gapR true x = some true
  | [], _ => rfl
  | c :: x, h => by
    have hn : ¬ c.toNat = 10 := fun e => h c (by simp) (UInt8.toNat_inj.1 e)
    have ih := gapR_true x (fun d hd => h d (by simp [hd]))
    simp only [gapR, if_neg hn, ih, Bool.not_true, Bool.false_and, Bool.false_eq_true, if_false]
    split <;> rfl

/-- Each word's text stands at its place; between them blanks and remarks alone. -/
def Placed (l : List UInt8) : Nat → List Tok → Prop
  | last, [] => gapOf (l.drop last) = true
  | last, t :: ts => (1 ≤ t.line ∧ t.line ≤ l.length + 1 ∧ 1 ≤ t.col ∧ t.col ≤ l.length + 1) ∧ ∃ p : Nat, offOf l t.line t.col = p ∧ last ≤ p ∧ 1 ≤ t.text.size ∧ p + t.text.size ≤ l.length ∧ (l.drop p).take t.text.size = t.text.data.toList ∧ gapOf ((l.drop last).take (p - last)) = true ∧ Placed l (p + t.text.size) ts
def RefPlaced (fuel : Nat) (p0 r : List UInt8) (last : Nat) (a b : Int) (acc : List Tok) : Prop :=
  ((refF fuel r a b acc).2.2.2 = 0 ∧ ∃ ts, (refF fuel r a b acc).1 = acc ++ ts ∧ Placed (p0 ++ r) last ts) ∨
  ((refF fuel r a b acc).2.2.2 = 10 ∧ ∃ p q, p0 ++ r = p ++ q ∧ q ≠ [] ∧ adv p 1 1 = ((refF fuel r a b acc).2.1, (refF fuel r a b acc).2.2.1))
theorem drop_le {α : Type} {p0 m : List α} {last : Nat} (h : last ≤ p0.length) : (p0 ++ m).drop last = p0.drop last ++ m := List.drop_append_of_le_length h
theorem refPlaced_step {f1 f2 : Nat} {p0 r m r' : List UInt8} {last : Nat} {a b a' b' : Int} {acc : List Tok} (hr : r = m ++ r') (he : refF f1 r a b acc = refF f2 r' a' b' acc) (h : RefPlaced f2 (p0 ++ m) r' last a' b' acc) : RefPlaced f1 p0 r last a b acc := by
  unfold RefPlaced at h ⊢
  rw [he, hr, ← List.append_assoc]
  exact h
theorem notNl_false {x : UInt8} (h : notNl (x.toNat : Int) = false) : x.toNat = 10 := by
  unfold notNl at h
  simp at h
  omega
theorem ref_placed : ∀ (fuel : Nat) (p0 r : List UInt8) (last : Nat) (a b : Int) (acc : List Tok) (flag : Bool), adv p0 1 1 = (a, b) → last ≤ p0.length → gapR false (p0.drop last) = some flag → (flag = true → r = [] ∨ r.head? = some 10) → r.length < fuel → RefPlaced fuel p0 r last a b acc
  | 0, p0, r, last, a, b, acc, flag, _, _, _, _, hf => by omega
  | fuel + 1, p0, [], last, a, b, acc, flag, ha, hl, hg, hfl, hf => by
    left
    refine ⟨by rw [refF], [], by rw [refF]; simp, ?_⟩
    unfold Placed gapOf
    rw [List.append_nil, hg]
    rfl
  | fuel + 1, p0, c :: r, last, a, b, acc, flag, ha, hl, hg, hfl, hf => by
    have hf' : r.length < fuel := by simpa using hf
    by_cases h10 : c.toNat = 10
    · have hc : c = 10 := UInt8.toNat_inj.1 h10
      subst hc
      refine refPlaced_step (m := [10]) rfl (by rw [refF, if_pos h10]) (ref_placed fuel _ r last (a + 1) 1 acc false ?_ (by simp; omega) ?_ (by simp) hf')
      · rw [adv_append, ha]; rfl
      · rw [drop_le hl, gapR_append, hg]; rfl
    · have hc10 : c ≠ 10 := fun e => h10 (by rw [e]; rfl)
      have hflag : flag = false := by
        cases flag with
        | false => rfl
        | true =>
          rcases hfl rfl with h | h
          · exact absurd h (by simp)
          · simp at h; exact absurd h hc10
      subst hflag
      by_cases hb : c.toNat = 32 ∨ c.toNat = 9 ∨ c.toNat = 13
      · refine refPlaced_step (m := [c]) rfl (by rw [refF, if_neg h10, if_pos hb]) (ref_placed fuel _ r last a (b + 1) acc false ?_ (by simp; omega) ?_ (by simp) hf')
        · rw [adv_append, ha]; simp [adv, hc10]
        · rw [drop_le hl, gapR_append, hg]
          have h35 : ¬ c.toNat = 35 := by omega
          simp only [Option.bind_some, gapR, if_neg h10, if_neg h35]
          rw [if_neg]
          simp
          omega
      · by_cases h35 : c.toNat = 35
        · have hc : c = 35 := UInt8.toNat_inj.1 h35
          subst hc
          have hle := lead_le notNl (35 :: r)
          have hp : 0 < lead notNl (35 :: r) := by rw [lead_cons_true (by rfl)]; omega
          have hnl := named_no_nl (p := notNl) (by decide) (35 :: r)
          refine refPlaced_step (m := (35 :: r).take (lead notNl (35 :: r))) (r' := (35 :: r).drop (lead notNl (35 :: r))) (List.take_append_drop _ _).symm (by rw [refF, if_neg h10, if_neg hb, if_pos h35])
            (ref_placed fuel _ _ last a (b + lead notNl (35 :: r)) acc true ?_ (by rw [List.length_append]; omega) ?_ (fun _ => ?_) (by rw [List.length_drop]; simp only [List.length_cons] at hle ⊢; omega))
          · rw [adv_append, ha]
            simp only
            rw [adv_plain _ a b hnl, List.length_take, Nat.min_eq_left hle]
          · rw [drop_le hl, gapR_append, hg]
            obtain ⟨k, hk⟩ : ∃ k, lead notNl (35 :: r) = k + 1 := ⟨lead notNl (35 :: r) - 1, by omega⟩
            rw [hk] at hnl ⊢
            rw [List.take_succ_cons] at hnl ⊢
            simp only [Option.bind_some, gapR, if_neg h10, if_pos h35]
            exact gapR_true _ (fun x hx => hnl x (by simp [hx]))
          · by_cases he : lead notNl (35 :: r) < (35 :: r).length
            · right
              have ho := lead_out he
              rw [List.head?_drop, List.getElem?_eq_getElem he]
              exact congrArg some (UInt8.toNat_inj.1 (notNl_false ho))
            · left
              rw [List.drop_eq_nil_iff]
              omega
        · have hne : (c :: r) ≠ [] := by simp
          have hen := endLen_bd hne
          have hunf : refF (fuel + 1) (c :: r) a b acc = if (ofTok ((c :: r).take (endLen (c :: r)))).kind = 0 then ([], a, b, 10) else refF fuel ((c :: r).drop (endLen (c :: r))) a (b + endLen (c :: r)) (acc ++ [{ ofTok ((c :: r).take (endLen (c :: r))) with line := a, col := b }]) := by
            rw [refF, if_neg h10, if_neg hb, if_neg h35]
          by_cases hk : (ofTok ((c :: r).take (endLen (c :: r)))).kind = 0
          · right
            rw [hunf, if_pos hk]
            exact ⟨rfl, p0, c :: r, rfl, hne, ha⟩
          · rw [if_neg hk] at hunf
            have hnl : ∀ x ∈ (c :: r).take (endLen (c :: r)), x ≠ 10 := end_no_nl hne (by simp; exact hc10)
            have hsz : (ofTok ((c :: r).take (endLen (c :: r)))).text.size = endLen (c :: r) := by
              show (bytesOf _).size = _
              rw [bytesOf_size, List.length_take]; omega
            have htx : (ofTok ((c :: r).take (endLen (c :: r)))).text.data.toList = (c :: r).take (endLen (c :: r)) := bytesOf_data _
            have hrec := ref_placed fuel (p0 ++ (c :: r).take (endLen (c :: r))) ((c :: r).drop (endLen (c :: r))) (p0.length + endLen (c :: r)) a (b + endLen (c :: r)) (acc ++ [{ ofTok ((c :: r).take (endLen (c :: r))) with line := a, col := b }]) false
              (by rw [adv_append, ha]; simp only; rw [adv_plain _ a b hnl, List.length_take, Nat.min_eq_left hen.2])
              (by rw [List.length_append, List.length_take]; omega)
              (by
                have : (p0 ++ (c :: r).take (endLen (c :: r))).drop (p0.length + endLen (c :: r)) = [] := by
                  rw [List.drop_eq_nil_iff, List.length_append, List.length_take]; omega
                rw [this]; rfl) (by simp) (by rw [List.length_drop]; omega)
            unfold RefPlaced at hrec ⊢
            rw [hunf]
            rw [List.append_assoc, List.take_append_drop] at hrec
            rcases hrec with ⟨h1, ts, h2, h3⟩ | h
            · left
              refine ⟨h1, { ofTok ((c :: r).take (endLen (c :: r))) with line := a, col := b } :: ts, by rw [h2, List.append_assoc]; rfl, ?_⟩
              unfold Placed
              have hbd := adv_bd1 p0 1 1 (by omega) (by omega)
              rw [ha] at hbd
              simp only at hbd
              refine ⟨⟨hbd.1, ?_, hbd.2.2.1, ?_⟩, p0.length, ?_, hl, ?_, ?_, ?_, ?_, ?_⟩
              · show a ≤ ((p0 ++ c :: r).length : Int) + 1
                rw [List.length_append]; omega
              · show b ≤ ((p0 ++ c :: r).length : Int) + 1
                rw [List.length_append]; omega
              · show offOf (p0 ++ c :: r) a b = _
                have := off_place p0 (c :: r)
                rw [ha] at this
                exact this
              · show 1 ≤ (ofTok _).text.size
                rw [hsz]; exact hen.1
              · show p0.length + (ofTok _).text.size ≤ _
                rw [hsz, List.length_append]; omega
              · show ((p0 ++ c :: r).drop p0.length).take (ofTok _).text.size = (ofTok _).text.data.toList
                rw [hsz, htx, List.drop_left]
              · rw [drop_le hl]
                have : (p0.drop last ++ c :: r).take (p0.length - last) = p0.drop last := by
                  rw [List.take_append_of_le_length (by rw [List.length_drop]; omega), List.take_of_length_le (by rw [List.length_drop]; omega)]
                rw [this]
                unfold gapOf
                rw [hg]; rfl
              · show Placed _ (p0.length + (ofTok _).text.size) ts
                rw [hsz]; exact h3
            · exact .inr h
theorem scan_placed {l : List UInt8} (hl : l.length ≤ 20000) : ((scanOf l).2.2.2 = 0 ∧ Placed l 0 (scanOf l).1) ∨ ((scanOf l).2.2.2 = 10 ∧ ∃ p : Nat, p < l.length ∧ offOf l (scanOf l).2.1 (scanOf l).2.2.1 = p ∧ 1 ≤ (scanOf l).2.1 ∧ (scanOf l).2.1 ≤ 20001 ∧ 1 ≤ (scanOf l).2.2.1 ∧ (scanOf l).2.2.1 ≤ 20001) := by
  rw [scan_is_ref]
  unfold refOf
  rw [if_neg (by omega)]
  rcases ref_placed (l.length + 1) [] l 0 1 1 [] false rfl (Nat.le_refl _) rfl (by simp) (by omega) with ⟨h1, ts, h2, h3⟩ | ⟨h1, p, q, h2, h3, h4⟩
  · left
    refine ⟨h1, ?_⟩
    rw [h2]
    exact h3
  · right
    have e : l = p ++ q := h2
    have hlen : l.length = p.length + q.length := by rw [e, List.length_append]
    have hq := List.length_pos_iff.2 h3
    have hbd := adv_bd1 p 1 1 (by omega) (by omega)
    have h := off_place p q
    rw [h4] at h hbd
    rw [← e] at h
    exact ⟨h1, p.length, by omega, h, hbd.1, by omega, hbd.2.2.1, by omega⟩
theorem placed_end {l : List UInt8} {last : Nat} {t : Tok} {ts : List Tok} (h : Placed l last (t :: ts)) : ∃ p : Nat, (1 ≤ t.line ∧ t.line ≤ l.length + 1 ∧ 1 ≤ t.col ∧ t.col ≤ l.length + 1) ∧ offOf l t.line t.col = p ∧ last ≤ p ∧ 1 ≤ t.text.size ∧ p + t.text.size ≤ l.length ∧ (l.drop p).take t.text.size = t.text.data.toList ∧ gapOf ((l.drop last).take (p - last)) = true ∧ Placed l (p + t.text.size) ts := by
  unfold Placed at h
  obtain ⟨h0, p, h⟩ := h
  exact ⟨p, h0, h⟩
end Go.Proofs.YtjfoinikdifgmaaDoor
