/- The walk of dispatcherref16.Same. -/
import Derived.Test.YtgphigpbgiceiaaGreatDoorClSame
import Derived.BigQuiet
namespace Go.Proofs.YtgphigpbgiceiaaGreatDoor
open Go.RowKit Go.Sort
set_option linter.unusedVariables false
set_option linter.unusedSimpArgs false

theorem same_no {a b : Cl} (h : a ≠ b) : a.same b = false := by
  cases hs : a.same b with
  | false => rfl
  | true => exact absurd ((Cl.same_iff a b).1 hs) h
set_option maxHeartbeats 16000000 in
set_option maxRecDepth 100000 in
theorem rcallSame_any (a b : Cl) (A B : Option Addr) (ca cb : Nat) (w : World) (hA : IntRow w A a.reqs) (hB : IntRow w B b.reqs) (hla : a.reqs.length ≤ 9223372036854775807) (hlb : b.reqs.length ≤ 9223372036854775807) :
    Calls Tryz.prog 9 #[.agg (clCells a A ca), .agg (clCells b B cb)] w fun e w' => e = .returned (.bool (a.same b)) ∧ Below w.heap.size w w' := by
  have hb1 : Below w.heap.size w (w.alloc (.cells (clCells a A ca) 24)) := (Below.refl _ _).alloc (Nat.le_refl _) _
  have hb2 : Below (w.alloc (.cells (clCells a A ca) 24)).heap.size (w.alloc (.cells (clCells a A ca) 24)) ((w.alloc (.cells (clCells a A ca) 24)).alloc (.cells (clCells b B cb) 24)) := (Below.refl _ _).alloc (Nat.le_refl _) _
  have hX1 : ClAt ((w.alloc (.cells (clCells a A ca) 24)).alloc (.cells (clCells b B cb) 24)) w.heap.size a A ca := (ClBlk.new.below hb2).at
  have hY1 : ClAt ((w.alloc (.cells (clCells a A ca) 24)).alloc (.cells (clCells b B cb) 24)) (w.alloc (.cells (clCells a A ca) 24)).heap.size b B cb := ClBlk.new.at
  have hbb := hb1.trans (hb2.mono hb1.size)
  have hsz : (w.alloc (.cells (clCells a A ca) 24)).heap.size = w.heap.size + 1 := by simp
  rw [hsz] at hY1
  have HX := Lib.hid hX1
  have HY := Lib.hid hY1
  have HB := Lib.hid hbb
  have HRA := Lib.hid (hA.below hbb)
  have HRB := Lib.hid (hB.below hbb)
  clear hb1 hb2 hX1 hY1 hbb hA hB hsz
  go_enter Tryz.func9, Tryz.ntmps9
  go_upto_region 1 with fail
  generalize (w.alloc (.cells (clCells a A ca) 24)).alloc (.cells (clCells b B cb) 24) = w1 at *
  have k8 := HX.out.g8
  have j8 := HY.out.g8
  by_cases hlen : a.reqs.length = b.reqs.length
  case neg =>
    have hne : ((a.reqs.length : Int) != (b.reqs.length : Int)) = true := by simp; omega
    have HNO := Lib.hid (same_no (a := a) (b := b) (fun e => hlen (by rw [e])))
    go_wp2_with fail
    go_ret
    exact ⟨ret_bool HNO.out.symm, HB.out⟩
  obtain ⟨n, hn⟩ : ∃ n, a.reqs.length = n := ⟨_, rfl⟩
  have HN := Lib.hid hn
  have hnb : b.reqs.length = n := by omega
  have HNB := Lib.hid hnb
  rw [hn] at k8 hla
  rw [hnb] at j8
  clear hn hnb hlen hlb
  go_wp2_with fail
  go_loopg [5] (n + 1) (fun g i wx => ∃ k : Nat, i = .int .i64 k ∧ k ≤ n ∧ n - k < g ∧ Hid (sameBy eqInt (a.reqs.drop k) (b.reqs.drop k) = sameBy eqInt a.reqs b.reqs) ∧ Hid (Below w1.heap.size w1 wx))
  case atStart => exact ⟨0, rfl, by omega, by omega, rfl, Below.refl _ _⟩
  case round =>
    obtain ⟨k, rfl, hk, hg, HS, HBX⟩ := hrel
    obtain ⟨g, rfl⟩ : ∃ g, gk = g + 1 := ⟨gk - 1, by omega⟩
    have HX2 := Lib.hid (HX.out.below HBX.out)
    have HY2 := Lib.hid (HY.out.below HBX.out)
    have k8 := HX2.out.g8
    have j8 := HY2.out.g8
    rw [HN.out] at k8
    rw [HNB.out] at j8
    by_cases hlt : k < n
    · have h1 : k < a.reqs.length := by rw [HN.out]; exact hlt
      have h2 : k < b.reqs.length := by rw [HNB.out]; exact hlt
      have hunf := HS.out
      rw [List.drop_eq_getElem_cons h1, List.drop_eq_getElem_cons h2, sameBy, eqInt] at hunf
      obtain ⟨b1, o1, rfl, _, c0⟩ := (HRA.out.below HBX.out) k h1
      obtain ⟨b2, o2, rfl, _, d0⟩ := (HRB.out.below HBX.out) k h2
      obtain ⟨eb, hne⟩ : ∃ e, (a.reqs[k] == b.reqs[k]) = e := ⟨_, rfl⟩
      rw [hne] at hunf
      have HU := Lib.hid hunf
      clear hunf HS
      generalize a.reqs[k] = x1 at *
      generalize b.reqs[k] = y1 at *
      clear h1 h2
      cases eb
      · have hne2 : (x1 != y1) = true := by rw [bne, hne]; rfl
        have HNO := Lib.hid (show a.same b = false by
          unfold Cl.same
          rw [← HU.out, Bool.false_and, Bool.and_false])
        go_upto_region 6 with fail
        go_quiet (fail)
        have HB9 := Lib.hid (HB.out.trans ((HBX.out.trans ((show Below wr.heap.size wr (wr.drewN nq) from Gr.below ⟨nq, #[], by rw [grow_empty]⟩).mono HBX.out.size)).mono HB.out.size))
        clear hne hne2 c0 d0
        go_wp2_with fail
        go_ret
        exact ⟨ret_bool HNO.out.symm, HB9.out⟩
      · have hne2 : (x1 != y1) = false := by rw [bne, hne]; rfl
        go_upto_region 6 with fail
        go_quiet (fail)
        have HB9 := Lib.hid (HBX.out.trans ((show Below wr.heap.size wr (wr.drewN nq) from Gr.below ⟨nq, #[], by rw [grow_empty]⟩).mono HBX.out.size))
        clear hne hne2 c0 d0
        go_wp2_with fail
        go_roundg g
        case measure => omega
        case rel => exact ⟨k + 1, by go_num, by omega, by omega, Lib.hid (by rw [← HU.out]; rfl), HB9⟩
    · have hke : k = n := by omega
      subst hke
      have HRQ := Lib.hid (show sameBy eqInt a.reqs b.reqs = true by
        rw [← HS.out, ← HN.out, List.drop_length, HN.out, ← HNB.out, List.drop_length]
        rfl)
      have HBB := Lib.hid (HB.out.trans (HBX.out.mono HB.out.size))
      have x0 := HX2.out.g0
      have x1 := HX2.out.g1
      have x2 := HX2.out.g2
      have x3 := HX2.out.g3
      have x4 := HX2.out.g4
      have x5 := HX2.out.g5
      have x6 := HX2.out.g6
      have x7 := HX2.out.g7
      have x9 := HX2.out.g9
      have xA := HX2.out.gA
      have y0 := HY2.out.g0
      have y1 := HY2.out.g1
      have y2 := HY2.out.g2
      have y3 := HY2.out.g3
      have y4 := HY2.out.g4
      have y5 := HY2.out.g5
      have y6 := HY2.out.g6
      have y7 := HY2.out.g7
      have y9 := HY2.out.g9
      have yA := HY2.out.gA
      clear HX2 HY2 HRA HRB HX HY hk hg HS HBX
      go_upto_region 8 with fail
      clear k8 j8
      simp only [List.append_eq, List.cons_append, List.nil_append]
      by_cases h_kind : a.kind = b.kind
      case neg =>
        have t_kind : (a.kind == b.kind) = false := beq_eq_false_iff_ne.2 h_kind
        have HNO := Lib.hid (same_no (a := a) (b := b) (fun e => h_kind (by rw [e])))
        clear h_kind
        go_wp2_with fail
        go_ret
        exact ⟨ret_bool HNO.out.symm, HBB.out⟩
      have t_kind : (a.kind == b.kind) = true := beq_iff_eq.2 h_kind
      by_cases h_comm : a.comm = b.comm
      case neg =>
        have t_comm : (a.comm == b.comm) = false := beq_eq_false_iff_ne.2 h_comm
        have HNO := Lib.hid (same_no (a := a) (b := b) (fun e => h_comm (by rw [e])))
        clear h_kind h_comm
        go_wp2_with fail
        go_ret
        exact ⟨ret_bool HNO.out.symm, HBB.out⟩
      have t_comm : (a.comm == b.comm) = true := beq_iff_eq.2 h_comm
      by_cases h_peer : a.peer = b.peer
      case neg =>
        have t_peer : (a.peer == b.peer) = false := beq_eq_false_iff_ne.2 h_peer
        have HNO := Lib.hid (same_no (a := a) (b := b) (fun e => h_peer (by rw [e])))
        clear h_kind h_comm h_peer
        go_wp2_with fail
        go_ret
        exact ⟨ret_bool HNO.out.symm, HBB.out⟩
      have t_peer : (a.peer == b.peer) = true := beq_iff_eq.2 h_peer
      by_cases h_tag : a.tag = b.tag
      case neg =>
        have t_tag : (a.tag == b.tag) = false := beq_eq_false_iff_ne.2 h_tag
        have HNO := Lib.hid (same_no (a := a) (b := b) (fun e => h_tag (by rw [e])))
        clear h_kind h_comm h_peer h_tag
        go_wp2_with fail
        go_ret
        exact ⟨ret_bool HNO.out.symm, HBB.out⟩
      have t_tag : (a.tag == b.tag) = true := beq_iff_eq.2 h_tag
      by_cases h_value : a.value = b.value
      case neg =>
        have t_value : (a.value == b.value) = false := beq_eq_false_iff_ne.2 h_value
        have HNO := Lib.hid (same_no (a := a) (b := b) (fun e => h_value (by rw [e])))
        clear h_kind h_comm h_peer h_tag h_value
        go_wp2_with fail
        go_ret
        exact ⟨ret_bool HNO.out.symm, HBB.out⟩
      have t_value : (a.value == b.value) = true := beq_iff_eq.2 h_value
      by_cases h_size : a.size = b.size
      case neg =>
        have t_size : (a.size == b.size) = false := beq_eq_false_iff_ne.2 h_size
        have HNO := Lib.hid (same_no (a := a) (b := b) (fun e => h_size (by rw [e])))
        clear h_kind h_comm h_peer h_tag h_value h_size
        go_wp2_with fail
        go_ret
        exact ⟨ret_bool HNO.out.symm, HBB.out⟩
      have t_size : (a.size == b.size) = true := beq_iff_eq.2 h_size
      by_cases h_root : a.root = b.root
      case neg =>
        have t_root : (a.root == b.root) = false := beq_eq_false_iff_ne.2 h_root
        have HNO := Lib.hid (same_no (a := a) (b := b) (fun e => h_root (by rw [e])))
        clear h_kind h_comm h_peer h_tag h_value h_size h_root
        go_wp2_with fail
        go_ret
        exact ⟨ret_bool HNO.out.symm, HBB.out⟩
      have t_root : (a.root == b.root) = true := beq_iff_eq.2 h_root
      by_cases h_op : a.op = b.op
      case neg =>
        have t_op : (a.op == b.op) = false := beq_eq_false_iff_ne.2 h_op
        have HNO := Lib.hid (same_no (a := a) (b := b) (fun e => h_op (by rw [e])))
        clear h_kind h_comm h_peer h_tag h_value h_size h_root h_op
        go_wp2_with fail
        go_ret
        exact ⟨ret_bool HNO.out.symm, HBB.out⟩
      have t_op : (a.op == b.op) = true := beq_iff_eq.2 h_op
      by_cases h_color : a.color = b.color
      case neg =>
        have t_color : (a.color == b.color) = false := beq_eq_false_iff_ne.2 h_color
        have HNO := Lib.hid (same_no (a := a) (b := b) (fun e => h_color (by rw [e])))
        clear h_kind h_comm h_peer h_tag h_value h_size h_root h_op h_color
        go_wp2_with fail
        go_ret
        exact ⟨ret_bool HNO.out.symm, HBB.out⟩
      have t_color : (a.color == b.color) = true := beq_iff_eq.2 h_color
      by_cases h_key : a.key = b.key
      case neg =>
        have t_key : (a.key == b.key) = false := beq_eq_false_iff_ne.2 h_key
        have HNO := Lib.hid (same_no (a := a) (b := b) (fun e => h_key (by rw [e])))
        clear h_kind h_comm h_peer h_tag h_value h_size h_root h_op h_color h_key
        go_wp2_with fail
        go_ret
        exact ⟨ret_bool HNO.out.symm, HBB.out⟩
      have t_key : (a.key == b.key) = true := beq_iff_eq.2 h_key
      have HYES := Lib.hid (show a.same b = true from (Cl.same_iff a b).2 (by
        have hr := (sameBy_iff eqInt_iff).1 HRQ.out
        cases a
        cases b
        simp only at *
        simp [*]))
      clear h_kind h_comm h_peer h_tag h_value h_size h_root h_op h_color h_key
      go_wp2_with fail
      go_ret
      exact ⟨ret_bool HYES.out.symm, HBB.out⟩
end Go.Proofs.YtgphigpbgiceiaaGreatDoor
