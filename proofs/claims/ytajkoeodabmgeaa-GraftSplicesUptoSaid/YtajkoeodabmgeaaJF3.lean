import Derived.JoinedCond
import Derived.JoinedOf
import Derived.ProofKit
import Derived.Test.YtajkoeodabmgeaaRows
namespace Go.Proofs.Ytajkoeodabmgeaa
theorem jf_make : (Try.prog.make == some Rows.graftMergesUptoRow.make) = true := by kernel_rfl
end Go.Proofs.Ytajkoeodabmgeaa
