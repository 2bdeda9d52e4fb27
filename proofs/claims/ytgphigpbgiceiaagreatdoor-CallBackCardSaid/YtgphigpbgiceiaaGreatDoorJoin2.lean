/- An own walk of strings.Join, at as many as 1000 texts of at most 100 bytes each. -/
import Derived.Test.YtgphigpbgiceiaaGreatDoorJoin
import Derived.Test.YtgphigpbgiceiaaGreatDoorShelf
namespace Go.Proofs.YtgphigpbgiceiaaGreatDoor
open Go.RowKit
set_option linter.unusedVariables false
set_option linter.unusedSimpArgs false

theorem byteCells_app (a b : List UInt8) : Lib.byteCells a ++ Lib.byteCells b = Lib.byteCells (a ++ b) := by simp [Lib.byteCells]
theorem strCells_is (s : ByteArray) : Lib.strCells s = Lib.byteCells s.data.toList := strCells_bytes s
theorem joinTail_snoc (sep : List UInt8) (r : List (List UInt8)) (y : List UInt8) : Lib.joinTail sep (r ++ [y]) = Lib.joinTail sep r ++ (sep ++ y) := by simp [Lib.joinTail]
theorem joinTail_len (sep : List UInt8) (hs : sep.length ≤ 100) : ∀ r : List (List UInt8), (∀ x ∈ r, x.length ≤ 100) → (Lib.joinTail sep r).length ≤ 200 * r.length
  | [], _ => by simp [Lib.joinTail]
  | x :: r, h => by
    have e : Lib.joinTail sep (x :: r) = sep ++ x ++ Lib.joinTail sep r := by simp [Lib.joinTail]
    have h1 := h x (by simp)
    have h2 := joinTail_len sep hs r (fun y hy => h y (by simp [hy]))
    rw [e]
    simp only [List.length_append, List.length_cons]
    omega

set_option maxRecDepth 100000 in
theorem join_zero (A : Option Addr) (c : Nat) (sep : ByteArray) (w : World) :
    Calls Tryz.prog 38 #[.slice A 0 c, .string sep] w fun e w' => e = .returned (.string ⟨#[]⟩) ∧ w' = w := by
  go_enter Tryz.func38, Tryz.ntmps38
  go_wp2_with fail
  go_ret
  exact ⟨rfl, rfl⟩

set_option maxHeartbeats 8000000 in
set_option maxRecDepth 100000 in
theorem join_any (bk c : Nat) (xs : List ByteArray) (sep : ByteArray) (w : World) (hcells : ∀ k (hk : k < xs.length), w.cell? ⟨bk, k, none⟩ = some (.string xs[k])) (hbk : bk < w.heap.size) (hN : xs.length ≤ 1000) (hs : sep.size ≤ 100) (hx : ∀ x ∈ xs, x.size ≤ 100) (hne : ∀ x ∈ xs, x.size ≠ 0) (hcap : xs.length ≤ c) (h2 : 1 ≤ xs.length) :
    Calls Tryz.prog 38 #[.slice (some ⟨bk, 0, none⟩) xs.length c, .string sep] w fun e w' => e = .returned (.string ⟨(Lib.join (xs.map (·.data.toList)) sep.data.toList).toArray⟩) ∧ Below w.heap.size w w' := by
  have HC := Lib.hid hcells
  have HX := Lib.hid hx
  clear hcells hx
  match xs, h2, HC, HX, hN, hcap, hne with
  | [x], _, HC, HX, hN, hcap, hne =>
    have c0 := HC.out 0 (by simp)
    simp only [List.getElem_cons_zero] at c0
    have hcap : 1 ≤ c := by simpa using hcap
    clear HC HX hN hne
    rw [show [x].length = 1 from rfl]
    go_enter Tryz.func38, Tryz.ntmps38
    go_wp2_with fail
    go_ret
    refine ⟨ret_str ?_, Below.refl _ _⟩
    rw [List.map_cons, List.map_nil, Lib.join_one]
  | x0 :: x1 :: r, _, HC, HX, hN, hcap, hne =>
    obtain ⟨n, hn⟩ : ∃ n, (x0 :: x1 :: r).length = n := ⟨_, rfl⟩
    have hn2 : 2 ≤ n := by rw [← hn]; simp
    have HNE := Lib.hid (hne x0 (by simp))
    have hxl : ∀ k (hk : k < (x0 :: x1 :: r).length), (x0 :: x1 :: r)[k].size ≤ 100 := fun k hk => HX.out _ (List.getElem_mem hk)
    have HXL := Lib.hid hxl
    obtain ⟨xs, hxs⟩ : ∃ xs, xs = x0 :: x1 :: r := ⟨_, rfl⟩
    obtain ⟨q, hq⟩ : ∃ q, q = x1 :: r := ⟨_, rfl⟩
    have HXS := Lib.hid (show xs = x0 :: q by rw [hxs, hq])
    rw [← hxs] at HC HX HXL hn hN hcap ⊢
    clear hxl hne hxs
    rw [hn] at hN hcap ⊢
    have HN := Lib.hid hn
    have hql : q.length = n - 1 := by
      have h := hn
      rw [HXS.out, List.length_cons] at h
      omega
    clear hn hq
    have hne0 : ((n : Int) == 0) = false := beq_eq_false_iff_ne.2 (by omega)
    have hne1 : ((n : Int) == 1) = false := beq_eq_false_iff_ne.2 (by omega)
    have hdv : ¬ (9223372036854775807 / ((n : Int) - 1) ≤ (sep.size : Int)) := by
      have h : (101 : Int) ≤ 9223372036854775807 / ((n : Int) - 1) := Int.le_ediv_of_mul_le (by omega) (by omega)
      omega
    obtain ⟨M, hM, hMb⟩ : ∃ M : Nat, wrap64 ((sep.size : Int) * ((n : Int) - 1)) = (M : Int) ∧ M ≤ 100000 := by
      have e : (sep.size : Int) * ((n : Int) - 1) = ((sep.size * (n - 1) : Nat) : Int) := by
        rw [Int.natCast_mul]
        congr 1
        omega
      have hb : sep.size * (n - 1) ≤ 100 * 1000 := Nat.mul_le_mul hs (by omega)
      exact ⟨sep.size * (n - 1), by rw [e]; exact IntWalk.wrap64_in _ ⟨by omega, by omega⟩, by omega⟩
    have HTL := Lib.hid (fun k => joinTail_len sep.data.toList (by rw [← Lib.size_eq]; exact hs) ((q.take k).map (·.data.toList)) (fun y hy => by
      obtain ⟨z, hz, rfl⟩ := List.mem_map.1 hy
      rw [← Lib.size_eq]
      exact HX.out z (by rw [HXS.out]; exact List.mem_cons_of_mem _ (List.mem_of_mem_take hz))))
    go_enter Tryz.func38, Tryz.ntmps38
    go_wp2_with fail
    all_goals
      go_loopg [5, 41] (n + 1) (fun g z i wx => ∃ (k a : Nat), z = .int .i64 a ∧ i = .int .i64 k ∧ k ≤ n ∧ n - k < g ∧ a ≤ 100000 + 100 * k ∧ wx = w)
      case atStart => first | exact ⟨0, M, rfl, rfl, by omega, by omega, by omega, rfl⟩ | exact ⟨0, 0, rfl, rfl, by omega, by omega, by omega, rfl⟩
      case round =>
        obtain ⟨k, a, rfl, rfl, hk, hg, ha, rfl⟩ := hrel
        obtain ⟨g, rfl⟩ : ∃ g, gk = g + 1 := ⟨gk - 1, by omega⟩
        by_cases hlt : k < n
        · have hkx : k < xs.length := by rw [HN.out]; exact hlt
          have c0 := HC.out k hkx
          have hx := HXL.out k hkx
          generalize xs[k] = x at *
          go_wp2_with fail
          go_roundg g
          case measure => omega
          case rel => exact ⟨k + 1, a + x.size, by go_num, by go_num, by omega, by omega, by omega, rfl⟩
        · have hke : k = n := by omega
          subst hke
          rename World => w0
          have hb1 : Below w0.heap.size w0 (w0.alloc (.cells #[.pointer none, .slice none 0 0] 91)) := (Below.refl _ _).alloc (Nat.le_refl _) _
          have HG := Lib.hid (Tryz.Builder_Grow_fresh w0.heap.size w0.heap.size a (w0.alloc (.cells #[.pointer none, .slice none 0 0] 91)) (Nat.le_refl _) (heap_alloc_new w0 _) (by simp) (by omega))
          go_wp2_with fail
          refine HG.out.mono ?_
          rintro e w1 ⟨rfl, h1, hb2⟩
          have HB1 := Lib.hid (hb1.trans hb2)
          have H1 := Lib.hid h1
          have hx0 : x0.size ≤ 100 := HX.out x0 (by rw [HXS.out]; simp)
          have c0 : w1.cell? ⟨bk, 0, none⟩ = some (.string x0) := by
            have h := HC.out 0 (by rw [HN.out]; omega)
            have e : ∀ (h0 : 0 < xs.length), xs[0] = x0 := by
              intro h0
              simp only [HXS.out, List.getElem_cons_zero]
            rw [e] at h
            exact cell_later HB1.out h
          clear hb1 h1 hb2 HG
          go_wp2_with fail
          refine (writeString_ba w0.heap.size w0.heap.size [] x0 w1 H1.out (by simp; omega) HB1.out.size).mono ?_
          rintro e w2 ⟨rfl, h2, hb2⟩
          have HB2 := Lib.hid (HB1.out.trans hb2)
          have H2 := Lib.hid (show BA w0.heap.size w0.heap.size (Lib.byteCells (x0.data.toList ++ Lib.joinTail sep.data.toList ((q.take 0).map (·.data.toList)))) w2 by
            have e : ([] : List Value) ++ Lib.strCells x0 = Lib.byteCells (x0.data.toList ++ Lib.joinTail sep.data.toList ((q.take 0).map (·.data.toList))) := by simp [Lib.joinTail, strCells_is]
            rw [← e]
            exact h2)
          clear h2 hb2 H1 HB1 c0
          go_wp2_with fail
          go_loopg [65] (q.length + 1) (fun g i wx => ∃ j : Nat, i = .int .i64 j ∧ j ≤ q.length ∧ q.length - j < g ∧ Hid (BA w0.heap.size w0.heap.size (Lib.byteCells (x0.data.toList ++ Lib.joinTail sep.data.toList ((q.take j).map (·.data.toList)))) wx) ∧ Hid (Below w0.heap.size w0 wx))
          case atStart => exact ⟨0, rfl, by omega, by omega, H2, HB2⟩
          case round =>
            clear H2 HB2
            obtain ⟨j, rfl, hj, hg, HBA, HB⟩ := hrel
            obtain ⟨g, rfl⟩ : ∃ g, gk = g + 1 := ⟨gk - 1, by omega⟩
            have hBw := HB.out.size
            by_cases hlt : j < q.length
            · have hjx : j + 1 < xs.length := by rw [HN.out]; omega
              have HQJ := Lib.hid (show ∀ (h : j + 1 < xs.length), xs[j + 1] = q[j] from fun h => by simp only [HXS.out, List.getElem_cons_succ])
              have c0 : wr.cell? ⟨bk, 1 + j, none⟩ = some (.string q[j]) := by
                have h := HC.out (j + 1) hjx
                rw [HQJ.out, Nat.add_comm] at h
                exact cell_later HB.out h
              have hy := HXL.out (j + 1) hjx
              rw [HQJ.out] at hy
              have HST := Lib.hid (show Lib.byteCells (x0.data.toList ++ Lib.joinTail sep.data.toList ((q.take j).map (·.data.toList))) ++ Lib.strCells sep ++ Lib.strCells q[j] = Lib.byteCells (x0.data.toList ++ Lib.joinTail sep.data.toList ((q.take (j + 1)).map (·.data.toList))) by
                have e1 : (q.take (j + 1)).map (·.data.toList) = (q.take j).map (·.data.toList) ++ [q[j].data.toList] := by
                  rw [List.take_succ_eq_append_getElem hlt, List.map_append]
                  rfl
                rw [e1, joinTail_snoc, strCells_is, strCells_is, byteCells_app, byteCells_app, List.append_assoc, List.append_assoc])
              have hl := HTL.out j
              have hlq : (q.take j).length ≤ q.length := by rw [List.length_take]; omega
              rw [List.length_map] at hl
              have hbl : (Lib.byteCells (x0.data.toList ++ Lib.joinTail sep.data.toList ((q.take j).map (·.data.toList)))).length ≤ 300000 := by
                rw [Lib.byteCells_length, List.length_append, ← Lib.size_eq]
                omega
              generalize q[j] = y at *
              generalize hL : Lib.byteCells (x0.data.toList ++ Lib.joinTail sep.data.toList ((q.take j).map (·.data.toList))) = L at *
              clear hL hl hlq
              go_wp2_with fail
              refine (writeString_ba w0.heap.size w0.heap.size L sep wr HBA.out (by omega) hBw).mono ?_
              rintro e w3 ⟨rfl, h3, hb3⟩
              have HBA3 := Lib.hid h3
              have HB3 := Lib.hid (HB.out.trans hb3)
              have hl3 : (L ++ Lib.strCells sep).length ≤ 300100 := by
                rw [List.length_append, Lib.strCells_length]
                omega
              clear h3 hb3 HBA HB c0
              go_wp2_with fail
              refine (writeString_ba w0.heap.size w0.heap.size (L ++ Lib.strCells sep) y w3 HBA3.out (by omega) HB3.out.size).mono ?_
              rintro e w4 ⟨rfl, h4, hb4⟩
              rw [HST.out] at h4
              have HBA4 := Lib.hid h4
              have HB4 := Lib.hid (HB3.out.trans hb4)
              clear h4 hb4 HBA3 HB3
              go_wp2_with fail
              go_roundg g
              case measure => omega
              case rel => exact ⟨j + 1, by go_num, by omega, by omega, HBA4, HB4⟩
            · have hke : j = q.length := by omega
              subst hke
              have hw : x0.data.toList ++ Lib.joinTail sep.data.toList ((q.take q.length).map (·.data.toList)) = Lib.join (xs.map (·.data.toList)) sep.data.toList := by
                rw [List.take_length, HXS.out, List.map_cons, Lib.join_cons]
              have h9 := HBA.out
              rw [hw] at h9
              have hnn : Lib.join (xs.map (·.data.toList)) sep.data.toList ≠ [] := by
                rw [← hw]
                intro h
                have h0 := (List.append_eq_nil_iff.1 h).1
                exact HNE.out (by rw [Lib.size_eq, h0]; rfl)
              have HS := Lib.hid (string_ba w0.heap.size w0.heap.size _ wr h9 hnn)
              clear hw h9 hnn HBA
              go_wp2_with fail
              refine HS.out.mono ?_
              rintro e w5 ⟨rfl, hb5⟩
              have HB5 := Lib.hid (HB.out.trans hb5)
              clear hb5
              go_wp2_with fail
              go_ret
              exact ⟨rfl, HB5.out⟩
end Go.Proofs.YtgphigpbgiceiaaGreatDoor
