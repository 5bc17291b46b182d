import Derived.Test.YtajkoeodabmgeaaG0
namespace Go.Proofs.Ytajkoeodabmgeaa
open Go.RowKit
set_option maxHeartbeats 2000000
set_option maxRecDepth 100000
attribute [local go_sem] grow_cell grow_frozen grow_size

/-- The first cut and the last. -/
def endsA (nd : NodeD) : Int := if nd.kids.length = 0 then 1 else 2
def endsZ (nd : NodeD) : Int := if nd.kids.length = 0 then nd.pairs.length - 1 else nd.kids.length - 2

theorem ends_c (A0 A1 A2 : Option Addr) (c0 c1 c2 : Nat) (nd : NodeD) (w : World) (hN : RdN w A0 c0 A1 c1 A2 c2 nd) :
    Calls Try.prog 76 #[vN A0 c0 A1 c1 A2 c2 nd] w fun e w' => e = .returned (.tuple #[.int .i64 (endsA nd), .int .i64 (endsZ nd)]) ∧ Below w.heap.size w w' := by
  have hp := hN.hp
  have hk := hN.hk
  clear hN
  by_cases h : nd.kids.length = 0
  · have hA : endsA nd = 1 := by simp [endsA, h]
    have hZ : endsZ nd = nd.pairs.length - 1 := by simp [endsZ, h]
    have HA := Lib.hid hA
    have HZ := Lib.hid hZ
    have hk1 : ((nd.kids.length : Int) == 0) = true := by simp [h]
    clear h hA hZ
    go_enter Try.func76, Try.ntmps76
    go_wp2
    refine wp_region_grow (by kernel_rfl) (by kernel_rfl) ?_
    repeat (any_goals (first | go_big_quiet_step (fail) | quiet_step (fail)))
    refine wpQuiet_nil ?_
    intro w1 hb
    go_wp2
    go_ret2
    exact ⟨by rw [HA.out, HZ.out]; rfl, below_a hb⟩
  · have hA : endsA nd = 2 := by simp [endsA, h]
    have hZ : endsZ nd = nd.kids.length - 2 := by simp [endsZ, h]
    have HA := Lib.hid hA
    have HZ := Lib.hid hZ
    have hk1 : ((nd.kids.length : Int) == 0) = false := by rw [beq_eq_false_iff_ne]; omega
    clear h hA hZ
    go_enter Try.func76, Try.ntmps76
    go_wp2
    refine wp_region_grow (by kernel_rfl) (by kernel_rfl) ?_
    repeat (any_goals (first | go_big_quiet_step (fail) | quiet_step (fail)))
    refine wpQuiet_nil ?_
    intro w1 hb
    go_wp2
    go_ret2
    exact ⟨by rw [HA.out, HZ.out]; rfl, below_a hb⟩

end Go.Proofs.Ytajkoeodabmgeaa
