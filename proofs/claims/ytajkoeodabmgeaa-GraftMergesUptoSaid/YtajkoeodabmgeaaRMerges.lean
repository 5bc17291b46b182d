/- GraftMerges: for every frame and halves of bulk at most 1048576 the law returns true and nothing that was there has turned. Condition: the bulk of what is read. -/
import Derived.Test.YtajkoeodabmgeaaJF
import Derived.Test.YtajkoeodabmgeaaRM1
namespace Go.Proofs.Ytajkoeodabmgeaa
open Go.ChangeShapes Go.WideShapes Go.ChangeAt Go.RowKit

theorem merges_facts : joinedFacts Try.prog 17 Try.f17 (Rows.OpenSpec.upto Rows.graftMergesSpec).bare Rows.graftMergesUptoRow = true :=
  joined_of rfl rfl (by kernel_rfl)
theorem merges_named : Try.prog.funcNamed Rows.graftMergesUptoRow.func = some 17 := by kernel_rfl

theorem merges_over : Rows.graftMergesUptoRow.holds Try.pinned (Rows.OpenSpec.upto Rows.graftMergesSpec) :=
  OpenClaim.holds_of_cond 17 Try.f17 rfl rfl rfl rfl rfl rfl rfl ⟨rfl, rfl, rfl, rfl, rfl⟩ rfl rfl rfl rfl rfl merges_named Try.func17 merges_facts
    (of_decide_eq_true (by kernel_rfl)) (by unfold Func.isWrapper; first | (rw [if_pos (by decide +kernel)]; kernel_rfl) | (rw [if_neg (by decide +kernel)]; exact ⟨rfl, rfl⟩))
    (fun os started H enc _ F => merges_lifted os started H enc F)

theorem merges_holds : Rows.GraftMergesUptoSaid :=
  merges_over

end Go.Proofs.Ytajkoeodabmgeaa
