/- GraftSplices: of whatever bulk at most 1048576 that is asked the law returns true and nothing that was there has turned. Condition: the bulk of what is read. -/
import Derived.Test.YtajkoeodabmgeaaJF
import Derived.Test.YtajkoeodabmgeaaSP7
namespace Go.Proofs.Ytajkoeodabmgeaa
open Go.ChangeShapes Go.WideShapes Go.ChangeAt Go.RowKit

theorem splices_facts : joinedFacts Try.prog 13 Try.f13 (Rows.OpenSpec.upto Rows.graftSplicesSpec).bare Rows.graftSplicesUptoRow = true :=
  joined_of rfl rfl (by kernel_rfl)
theorem splices_named : Try.prog.funcNamed Rows.graftSplicesUptoRow.func = some 13 := by kernel_rfl

theorem splices_over : Rows.graftSplicesUptoRow.holds Try.pinned (Rows.OpenSpec.upto Rows.graftSplicesSpec) :=
  OpenClaim.holds_of_cond 13 Try.f13 rfl rfl rfl rfl rfl rfl rfl ⟨rfl, rfl, rfl, rfl, rfl⟩ rfl rfl rfl rfl rfl splices_named Try.func13 splices_facts
    (of_decide_eq_true (by kernel_rfl)) (by unfold Func.isWrapper; first | (rw [if_pos (by decide +kernel)]; kernel_rfl) | (rw [if_neg (by decide +kernel)]; exact ⟨rfl, rfl⟩))
    (fun os started H enc _ F => splices_lifted os started H enc F)

theorem splices_holds : Rows.GraftSplicesUptoSaid :=
  splices_over

end Go.Proofs.Ytajkoeodabmgeaa
