/- slices.Sorted over slices.Values; slices.Clone with its own row. -/
import Derived.Test.YtgphigpbgiceiaaGreatDoorIter
import Derived.Test.YtgphigpbgiceiaaGreatDoorShelf
import Derived.Test.YtgphigpbgiceiaaGreatDoorReqsP
import Derived.Test.YtgphigpbgiceiaaGreatDoorPk7
import Derived.Sort.OwnSorted
import Derived.Lib.SlKeysI
namespace Go.Proofs.YtgphigpbgiceiaaGreatDoor
open Go.RowKit Go.Shelf Go.Sort
set_option linter.unusedVariables false
set_option linter.unusedSimpArgs false

theorem own_block {w : World} {base n c : Nat} {e : TypeId} {A : Option Addr} {xs : List Value} (h : w.ownsRow base e 1 (.slice A n c) n xs) (hn : 0 < n) : ∃ g cur, A = some ⟨g, 0, none⟩ ∧ base ≤ g ∧ w.heap[g]? = some (.cells cur e (0, 0)) ∧ n ≤ c ∧ c ≤ maxLen ∧ cur.size = c * 1 ∧ cur.toList.take n = xs := by
  rcases h.2 with ⟨_, h0⟩ | ⟨g, cap, cur, e1, h1, h2, h3, h4, h5, h6⟩
  · omega
  · simp only [Value.slice.injEq] at e1
    obtain ⟨rfl, _, rfl⟩ := e1
    exact ⟨g, cur, rfl, h1, h2, h3, h4, h5, by simpa using h6⟩

set_option maxRecDepth 100000 in
set_option maxHeartbeats 2000000 in
theorem sorted_any (Bs n₀ cap : Nat) (A : Option Addr) (zs : List Int) (hlen : zs.length ≤ 1000) (w : World) (hBs : Bs < w.heap.size) (hn₀ : n₀ ≤ w.heap.size)
    (hcB : w.cell? ⟨Bs, 0, none⟩ = some (.slice A zs.length cap)) (hI : IntLow n₀ w A zs) :
    Calls Tryz.prog 31 #[.func (.func 47) #[] #[.pointer (some ⟨Bs, 0, none⟩)]] w fun e w' => ∃ (B : Option Addr) (cb : Nat), e = .returned (.slice B zs.length cb) ∧ w'.ownsRow w.heap.size 3 1 (.slice B zs.length cb) zs.length ((sortI zs).map (Value.int .i64)) ∧ Below w.heap.size w w' := by
  have HA := Lib.hid (collect_any Bs n₀ cap A zs hlen w hBs hn₀ hcB hI)
  clear hBs hn₀ hcB hI
  go_enter Tryz.func31, Tryz.ntmps31
  go_wp2_with fail
  refine HA.out.mono ?_
  rintro e w1 ⟨B, cb, rfl, hrow, hb⟩
  have HR := Lib.hid hrow
  have HB := Lib.hid hb
  clear hrow hb HA
  rcases Nat.eq_zero_or_pos zs.length with h0 | hpos
  · have HZ := Lib.hid h0
    rw [h0]
    clear h0
    go_wp2_with fail
    refine (Tryz.slices_Sort_int_none B cb w1).mono ?_
    rintro e w2 ⟨rfl, rfl⟩
    go_wp2_with fail
    go_ret
    have hz : zs = [] := List.eq_nil_of_length_eq_zero HZ.out
    subst hz
    exact ⟨B, cb, rfl, by simpa [sortI] using HR.out, HB.out⟩
  · obtain ⟨g, cur, rfl, hbase, hgb, r1, r2, r3, r4⟩ := own_block HR.out hpos
    have HH := Lib.hid (Tryz.slices_Sort_int g 0 cb zs w1 (Go.Proofs.holds_of_block_i hgb (by simpa using r4)) (Array.getElem?_eq_some_iff.1 hgb).1 (by omega))
    have HG := Lib.hid (And.intro hbase (And.intro hgb (And.intro r1 (And.intro r2 r3))))
    clear hbase hgb r1 r2 r3 r4 HR
    go_wp2_with fail
    refine HH.out.mono ?_
    rintro e w2 ⟨rfl, q, os, hw2⟩
    have HW := Lib.hid hw2
    clear hw2
    go_wp2_with fail
    go_ret
    obtain ⟨hbase, hgb, r1, r2, r3⟩ := HG.out
    refine ⟨_, cb, rfl, ?_, ?_⟩
    · rw [HW.out]
      exact Go.Proofs.ownsRow_sorted_i (ss := zs) (ts := sortI zs) (by rw [sortI_len]) hbase hgb r1 r2 r3
    · rw [HW.out]
      exact HB.out.grown (Go.Proofs.grownBy_sorted_i _) HB.out.size (fun j hj => by cases hj; exact hbase)

set_option maxHeartbeats 4000000 in
set_option maxRecDepth 100000 in
/-- slices.Clone of a row with something in it: a row of its own. -/
theorem clone_own (A : Option Addr) (cap : Nat) (l : List Int) (w : World) (hR : IntRow w A l) (hl : l.length ≤ 1000) (hpos : 0 < l.length) :
    Calls Tryz.prog 34 #[.slice A l.length cap] w (SeqPost w l) := by
  have q22 : ∀ (w : World) (a : Option Addr) (n c n' c' : Nat), (binOp .eql 22 (.slice a n c) (.slice none n' c')).run Tryz.prog w = .ok (.bool a.isNone) w := fun w a n c n' c' => Lib.run_eql_slice_nil w _ _ a n c n' c' Tryz.underlying22
  obtain ⟨b, o, rfl, _, _⟩ := hR 0 hpos
  obtain ⟨i1, hi1, hz01, hz11, hz21⟩ := info_parts Tryz.infoInt
  have H1 := Lib.hid (And.intro hi1 (And.intro hz01 (And.intro hz11 hz21)))
  clear hi1 hz01 hz11 hz21
  have HC := Lib.hid (intRow_cells hR)
  have HL := Lib.hid hl
  clear hR hl
  go_enter Tryz.func34, Tryz.ntmps34
  go_wp2_with (at_builtin; refine wpList_append_own _ rfl _ _ 22 rfl w.heap.size 3 i1 (.int .i64 0) 1 8 Tryz.underlying22 H1.out.1 H1.out.2.1 H1.out.2.2.1 H1.out.2.2.2 rfl (by decide) _ _ _ rfl (World.ownsRow_made w #[] 0 (Nat.le_refl _) (Nat.zero_le _) rfl) ⟨b, o, none⟩ l.length cap (l.map (Value.int .i64)) rfl ?qc1 ?qc2 ?qc3 ?qc4 ?qc5 ?qc6 ?_)
  case qc1 => simp
  case qc2 =>
    intro j u hj
    obtain ⟨a', e', h⟩ := HC.out j u hj
    cases e'
    exact Lib.cell?_alloc_some _ h
  case qc3 => intro u hu; obtain ⟨x, _, rfl⟩ := List.mem_map.1 hu; rfl
  case qc4 => have := HL.out; unfold maxLen; omega
  case qc5 => have := HL.out; omega
  case qc6 => simp
  intro v' w1 hown hgrow hnil
  have hown2 : w1.ownsRow w.heap.size 3 1 v' l.length (l.map (Value.int .i64)) := by simpa using hown
  obtain ⟨B, cb, rfl, _, _, h1, _⟩ := own_shape hown2
  go_wp2_with fail
  go_ret
  exact ⟨B, cb, rfl, hown2, ((Below.refl _ w).alloc (Nat.le_refl _) _).grown hgrow (by simp) (by intro k hk; simp [Value.ownBlock] at hk; omega)⟩

/-- slices.Compact of a row of one's own: how long it is then. -/
theorem compact_own (B : Option Addr) (cb base : Nat) (l : List Int) (w : World) (hb0 : base ≤ w.heap.size) (hl : l.length ≤ 1000) (hpos : 0 < l.length) (h : w.ownsRow base 3 1 (.slice B l.length cb) l.length (l.map (Value.int .i64))) :
    Calls Tryz.prog 33 #[.slice B l.length cb] w fun e w' => ∃ (C : Option Addr) (cc : Nat), e = .returned (.slice C (Lib.compact l).length cc) ∧ Below base w w' := by
  obtain ⟨g, cur, rfl, hbase, hgb, r1, r2, r3, r4⟩ := own_block h hpos
  refine (Tryz.slices_Compact_int g 0 cb l w (Go.Proofs.holds_of_block_i hgb (by simpa using r4)) (by omega) r1).mono ?_
  rintro e w' ⟨rfl, q, hw⟩
  refine ⟨_, _, rfl, ?_⟩
  rw [hw, ← grow_empty (putRow _ _ _ _ _)]
  exact (Below.refl _ w).grown (Go.Proofs.grownBy_sorted_i _) hb0 (fun j hj => by cases hj; exact hbase)
end Go.Proofs.YtgphigpbgiceiaaGreatDoor
