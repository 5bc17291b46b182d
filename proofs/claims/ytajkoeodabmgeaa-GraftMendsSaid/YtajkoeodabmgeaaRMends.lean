/- GraftMends: for every frame and halves the law returns true and nothing that was there has turned. No condition. -/
import Derived.Test.YtajkoeodabmgeaaJF
import Derived.Test.YtajkoeodabmgeaaRM2
namespace Go.Proofs.Ytajkoeodabmgeaa
open Go.ChangeShapes Go.WideShapes Go.ChangeAt Go.RowKit

theorem mends_facts : joinedFacts Try.prog 18 Try.f18 Rows.graftMendsSpec Rows.graftMendsRow = true :=
  joined_of rfl rfl (by kernel_rfl)
theorem mends_named : Try.prog.funcNamed Rows.graftMendsRow.func = some 18 := by kernel_rfl

theorem mends_holds : Rows.GraftMendsSaid :=
  OpenClaim.holds_of_wide 18 Try.f18 rfl rfl rfl rfl rfl rfl rfl ⟨rfl, rfl, rfl, rfl, rfl⟩ rfl rfl rfl rfl rfl mends_named Try.func18 mends_facts
    (of_decide_eq_true (by kernel_rfl)) (by unfold Func.isWrapper; first | (rw [if_pos (by decide +kernel)]; kernel_rfl) | (rw [if_neg (by decide +kernel)]; exact ⟨rfl, rfl⟩))
    (fun os started H enc _ => mends_lifted os started H enc)

end Go.Proofs.Ytajkoeodabmgeaa
