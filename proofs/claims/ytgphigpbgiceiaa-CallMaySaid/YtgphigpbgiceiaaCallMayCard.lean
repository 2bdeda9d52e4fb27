/- For every two calls and every group CallMay returns true and leaves them as they were: whether a call may be, is a decision point, is another one, and what it is trim, is what the chapter says. No condition beside what the row itself says. -/
import Derived.Test.YtgphigpbgiceiaaCallMay
namespace Go.Proofs.Ytgphigpbgiceiaa
open Go.ChangeShapes Go.WideShapes Go.ChangeAt Go.RowKit

set_option maxRecDepth 100000 in
theorem callMay_lifted (os : Os) (started : os.Started) (H : Type) (enc : TypeId × Value → H) :
    ReturnsInHanded {} Try.checked os 3 .any (Rows.callMaySpec.pre6 enc Try.prog Try.f3 Rows.callMayRow.domain false)
      (Rows.callMaySpec.post enc Try.prog Try.f3 false true false false) := by
  refine returnsInHanded_of_change_sized (C := Try.checked) own started (by kernel_rfl) Try.func3
    (ChangeSpec.witness6 (enc := enc) (C := Try.checked) false ⟨#[], #[.agg #[.int .u8 0, .int .i64 0, .int .i64 0, .int .i64 0, .int .i64 0, .int .i64 0, .int .i64 0, .int .u8 0, .slice none 0 0, .int .i64 0, .int .i64 0], .agg #[.int .u8 0, .int .i64 0, .int .i64 0, .int .i64 0, .int .i64 0, .int .i64 0, .int .i64 0, .int .u8 0, .slice none 0 0, .int .i64 0, .int .i64 0], .agg #[.string ByteArray.empty, .slice none 0 0]], []⟩ 8 (by kernel_rfl) (by kernel_rfl) (by kernel_rfl) (by kernel_rfl)) ?_
  intro W base args ds gs before hval0 hW hcnd hsz0 _
  have hW' : DataW.Whole enc Try.prog Try.f3.params.toList Rows.callMaySpec.vars false W args.toList ds gs before := hW
  obtain ⟨p, q, hA, hV, rfl, hfz, hnd⟩ := hW
  obtain ⟨rfl, rfl⟩ := trodVars_none hV
  refine (callMay_calls enc W base args ds p hval0 hA hsz0 ).mono fun e W' ⟨he, hb, hfn⟩ => ?_
  subst he
  exact ⟨_, rfl, law_post (tb := 4) rfl rfl Try.underlying4 (by kernel_rfl) hfn hW' hb⟩

theorem callMay_said : Rows.CallMaySaid :=
  OpenClaim.holds_of_wide 3 Try.f3 rfl rfl rfl rfl rfl rfl rfl ⟨rfl, rfl, rfl, rfl, rfl⟩ rfl rfl rfl rfl rfl (by kernel_rfl) Try.func3 (by kernel_rfl)
    (of_decide_eq_true (by kernel_rfl)) (by unfold Func.isWrapper; first | (rw [if_pos (by decide +kernel)]; kernel_rfl) | (rw [if_neg (by decide +kernel)]; exact ⟨rfl, rfl⟩))
    (fun os started H enc _ => callMay_lifted os started H enc)

#print axioms callMay_said
end Go.Proofs.Ytgphigpbgiceiaa


