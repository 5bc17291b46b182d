/- GraftBorrows: for every frame and halves the law returns true and nothing that was there has turned. No condition. -/
import Derived.Test.YtajkoeodabmgeaaJF
import Derived.Test.YtajkoeodabmgeaaRM2
namespace Go.Proofs.Ytajkoeodabmgeaa
open Go.ChangeShapes Go.WideShapes Go.ChangeAt Go.RowKit

theorem borrows_facts : joinedFacts Try.prog 16 Try.f16 Rows.graftBorrowsSpec Rows.graftBorrowsRow = true :=
  joined_of rfl rfl (by kernel_rfl)
theorem borrows_named : Try.prog.funcNamed Rows.graftBorrowsRow.func = some 16 := by kernel_rfl

theorem borrows_holds : Rows.GraftBorrowsSaid :=
  OpenClaim.holds_of_wide 16 Try.f16 rfl rfl rfl rfl rfl rfl rfl ⟨rfl, rfl, rfl, rfl, rfl⟩ rfl rfl rfl rfl rfl borrows_named Try.func16 borrows_facts
    (of_decide_eq_true (by kernel_rfl)) (by unfold Func.isWrapper; first | (rw [if_pos (by decide +kernel)]; kernel_rfl) | (rw [if_neg (by decide +kernel)]; exact ⟨rfl, rfl⟩))
    (fun os started H enc _ => borrows_lifted os started H enc)

end Go.Proofs.Ytajkoeodabmgeaa
