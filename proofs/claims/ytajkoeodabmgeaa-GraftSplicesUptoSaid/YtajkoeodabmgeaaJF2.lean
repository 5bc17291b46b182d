import Derived.JoinedCond
import Derived.JoinedOf
import Derived.ProofKit
import Derived.Test.YtajkoeodabmgeaaRows
namespace Go.Proofs.Ytajkoeodabmgeaa
theorem jf_lift : (Rows.graftMergesUptoRow.lifted == Try.prog.liftsFinal) = true := by kernel_rfl
end Go.Proofs.Ytajkoeodabmgeaa
