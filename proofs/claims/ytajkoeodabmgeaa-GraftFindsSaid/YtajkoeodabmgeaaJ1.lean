import Derived.Test.YtajkoeodabmgeaaH5
namespace Go.Proofs.Ytajkoeodabmgeaa
open Go.RowKit
set_option maxHeartbeats 2000000
set_option maxRecDepth 100000

def smallN : NodeD := ⟨[⟨⟨#[98]⟩, ⟨#[49]⟩⟩, ⟨⟨#[100]⟩, ⟨#[50]⟩⟩, ⟨⟨#[102]⟩, ⟨#[51]⟩⟩], [], []⟩
def pairC : PairD := ⟨⟨#[99]⟩, ⟨#[57]⟩⟩

theorem small_check : checkE 1024 32 smallN = 0 := by kernel_rfl
theorem small_putE : putE 1024 32 smallN pairC = 0 := by kernel_rfl
theorem small_putB : putB 1024 32 smallN pairC = false := by kernel_rfl
theorem small_putR : putR 1024 32 smallN pairC = ⟨[⟨⟨#[98]⟩, ⟨#[49]⟩⟩, ⟨⟨#[99]⟩, ⟨#[57]⟩⟩, ⟨⟨#[100]⟩, ⟨#[50]⟩⟩, ⟨⟨#[102]⟩, ⟨#[51]⟩⟩], [], []⟩ := by kernel_rfl
theorem small_splitE : splitE 1024 32 smallN = 0 := by kernel_rfl
theorem small_splitL : splitL 1024 32 smallN = ⟨[⟨⟨#[98]⟩, ⟨#[49]⟩⟩], [], []⟩ := by kernel_rfl
theorem small_splitR : splitR 1024 32 smallN = ⟨[⟨⟨#[100]⟩, ⟨#[50]⟩⟩, ⟨⟨#[102]⟩, ⟨#[51]⟩⟩], [], []⟩ := by kernel_rfl
theorem small_splitS : splitS 1024 32 smallN = ⟨#[100]⟩ := by kernel_rfl
theorem apr_S : sepS ⟨#[97, 112, 112, 108, 101]⟩ ⟨#[97, 112, 114, 105, 99, 111, 116]⟩ = ⟨#[97, 112, 114]⟩ := by kernel_rfl
theorem apr_E : sepE ⟨#[97, 112, 112, 108, 101]⟩ ⟨#[97, 112, 114, 105, 99, 111, 116]⟩ = 0 := by kernel_rfl

end Go.Proofs.Ytajkoeodabmgeaa
