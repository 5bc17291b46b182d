import Derived.Test.YtajkoeodabmgeaaJ2
namespace Go.Proofs.Ytajkoeodabmgeaa
open Go.RowKit
set_option maxHeartbeats 2000000
set_option maxRecDepth 100000

theorem names_law (w : World) : Calls Try.prog 3 #[] w fun e w' => e = .returned (.bool true) ∧ Below w.heap.size w w' := by
  go_enter Try.func3, Try.ntmps3
  go_wp2_with (first | (go_at_call 20; refine (awake_c _).mono ?_; rintro e w1 ⟨rfl, hb⟩))
  go_ret
  exact ⟨rfl, hb⟩

theorem between_law (l r : ByteArray) (w : World) (hl : l.size ≤ 140737488355328) (hr : r.size ≤ 140737488355328) :
    Calls Try.prog 5 #[.string l, .string r] w fun e w' => e = .returned (.bool true) ∧ Below w.heap.size w w' := by
  go_enter Try.func5, Try.ntmps5
  go_wp2_with (first
    | (go_at_call 27; refine (between_c l r _ hl hr).mono ?_; rintro e w1 ⟨rfl, hb1⟩)
    | (go_at_call 28; refine (refBetween_c l r _ hl hr).mono ?_; rintro e w2 ⟨rfl, hb2⟩)
    | (go_at_call 20; refine (awake_c _).mono ?_; rintro e w3 ⟨rfl, hb3⟩))
  go_ret
  exact ⟨rfl, (hb1.trans (hb2.mono hb1.size)).trans (hb3.mono (Nat.le_trans hb1.size hb2.size))⟩

end Go.Proofs.Ytajkoeodabmgeaa
