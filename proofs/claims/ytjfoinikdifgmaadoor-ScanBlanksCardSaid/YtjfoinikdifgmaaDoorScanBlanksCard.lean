/- For every row of bytes, whatever blanks and remarks are put between its words, and whatever is put behind it and a byte 10, ScanBlanks returns true and leaves its arguments as they were. No condition beside what the row itself says. -/
import Derived.Test.YtjfoinikdifgmaaDoorScanBlanks
import Derived.Test.YtjfoinikdifgmaaDoorCards
import Derived.Test.YtjfoinikdifgmaaDoorTie
import Derived.SevenTiedAt
namespace Go.Proofs.YtjfoinikdifgmaaDoor
open Go.ChangeShapes Go.WideShapes Go.ChangeAt Go.RowKit

theorem scanBlanks_met (os : Os) (args : Array Value) : laidMetH Tryd.prog Rows.scanBlanksRow.laid ((World.doorLaid Tryd.prog 82 os).forCall (fun _ _ => 0) ⟨#[], args, []⟩).memory :=
  laidMetH_of_parts3 (fuel := 8) (laidMet_of_run' 8 (by kernel_rfl) (by kernel_rfl)) (by kernel_rfl) (by kernel_rfl)

set_option maxRecDepth 100000 in
theorem scanBlanks_lifted (os : Os) (started : os.Started) (H : Type) (enc : TypeId × Value → H) :
    ReturnsInHanded {} Tryd.checked os 7 .any (fun w args => (Rows.scanBlanksSpec.pre enc Tryd.prog Tryd.f7 [] false w args ∧ laidMetH Tryd.prog Rows.scanBlanksRow.laid w) ∧ sizedMet enc Tryd.prog Tryd.f7 (OpenSpec.ofChange Rows.scanBlanksSpec) false w args)
      (Rows.scanBlanksSpec.post enc Tryd.prog Tryd.f7 false true false false) := by
  refine returnsInHanded_of_change_and (C := Tryd.checked) (X := fun w _ => laidMetH Tryd.prog Rows.scanBlanksRow.laid w) (fun _ _ _ hh h => h.of_heap hh) own started (by kernel_rfl) Tryd.func7
    (ChangeSpec.witness_shaped (enc := enc) (C := Tryd.checked) (os := os) (X := fun w _ => laidMetH Tryd.prog Rows.scanBlanksRow.laid w) false (World.doorLaid Tryd.prog 82 os) #[.slice none 0 0, .slice none 0 0, .slice none 0 0] 8 rfl (World.shaped_of_RefB (by kernel_rfl) (by kernel_rfl)) (by kernel_rfl) (by kernel_rfl) (by kernel_rfl) (scanBlanks_met os _)) ?_
  intro W base args ds gs before hval0 hW hcnd hsz0 hL _
  have hW' : DataW.Whole enc Tryd.prog Tryd.f7.params.toList Rows.scanBlanksSpec.vars false W args.toList ds gs before := hW
  obtain ⟨p, q, hA, hV, rfl, hfz, hnd⟩ := hW
  obtain ⟨rfl, rfl⟩ := trodVars_none hV
  refine (scanBlanks_calls enc W base args ds p hval0 hA hsz0 hL ).mono fun e W' ⟨he, hb, hfn⟩ => ?_
  subst he
  exact ⟨_, rfl, law_post (tb := 4) rfl rfl Tryd.underlying4 (by kernel_rfl) hfn hW' hb⟩

theorem scanBlanks_said : Rows.ScanBlanksSaid :=
  OpenClaim.holds_of_wide 7 Tryd.f7 rfl rfl rfl rfl rfl rfl rfl ⟨rfl, rfl, rfl, rfl, rfl⟩ rfl rfl rfl rfl rfl (by kernel_rfl) Tryd.func7 (by kernel_rfl)
    (of_decide_eq_true (by kernel_rfl)) (by unfold Func.isWrapper; first | (rw [if_pos (by decide +kernel)]; kernel_rfl) | (rw [if_neg (by decide +kernel)]; exact ⟨rfl, rfl⟩))
    (fun os started H enc _ => scanBlanks_lifted os started H enc)

theorem scanBlanks_card : Rows.ScanBlanksCardSaid :=
  Claim7.holds_tied_plain_at .later [] [.data, .data, .data, .sentinel, .sentinel, .widerDeep, .widerDeep] true (true, "92b85e43d291301b5878178a0567f6246dd4f1602448b93a33e0cf835948b5ee") true
    scanBlanks_said (fun _ h => by cases h) (by kernel_rfl) (fun _ h => by cases h) scanBlanks_row_tie rfl ⟨rfl, rfl⟩ (by kernel_rfl) rfl
    (fun f fn hf hfn => by
      obtain rfl : f = 7 := Option.some.inj ((show Tryd.prog.funcNamed "dispatcher/dispatcherlaw01.ScanBlanks" = some 7 by kernel_rfl).symm.trans hf) |>.symm
      obtain rfl : fn = Tryd.f7 := (Option.some.inj (Tryd.func7.symm.trans hfn)).symm
      exact ⟨by kernel_rfl, fun j t ht => by
        have hm : t ∈ Tryd.f7.params.toList := by simpa using Array.mem_of_getElem? ht
        have hall : (Tryd.f7.params.toList.all fun u => !Tryd.prog.wantsStandIn u) = true := by kernel_rfl
        exact (show Tryd.prog.wantsStandIn t = false by simpa using List.all_eq_true.1 hall t hm)⟩)
    (by kernel_rfl)
#print axioms scanBlanks_card
end Go.Proofs.YtjfoinikdifgmaaDoor


