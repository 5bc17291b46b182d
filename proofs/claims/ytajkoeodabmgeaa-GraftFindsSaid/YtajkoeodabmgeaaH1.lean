import Derived.Test.YtajkoeodabmgeaaG3
namespace Go.Proofs.Ytajkoeodabmgeaa
open Go.RowKit
set_option maxHeartbeats 2000000
set_option maxRecDepth 100000
attribute [local go_sem] grow_cell grow_frozen grow_size

theorem weigh_c (pg wd : Int) (Bf : Nat) (A0 A1 A2 : Option Addr) (c0 c1 c2 : Nat) (nd : NodeD) (w : World) (hN : RdN w A0 c0 A1 c1 A2 c2 nd)
    (hc0 : w.cell? ⟨Bf, 0, none⟩ = some (.int .i64 pg)) (hc1 : w.cell? ⟨Bf, 1, none⟩ = some (.int .i64 wd)) :
    Calls Try.prog 75 #[vN A0 c0 A1 c1 A2 c2 nd, .pointer (some ⟨Bf, 0, none⟩)] w fun e w' => e = .returned (.int .i64 (sizeE pg wd nd)) ∧ Below w.heap.size w w' := by
  have hlt : Bf < w.heap.size := World.block_lt_of_cell? _ _ hc0
  have hlt1 : Bf < w.heap.size + 1 := by omega
  have HN := Lib.hid hN
  clear hN
  go_enter Try.func75, Try.ntmps75
  go_wp2_with (first
    | (go_at_call 40; refine (Size_c pg wd A0 A1 A2 c0 c1 c2 nd _ (HN.out.below ((Below.refl _ _).alloc (Nat.le_refl _) _))).mono ?_; rintro e w1 ⟨rfl, hb⟩))
  go_ret
  exact ⟨rfl, below_a hb⟩

theorem cuts_c (pg wd : Int) (A0 A1 A2 : Option Addr) (c0 c1 c2 : Nat) (nd : NodeD) (w : World) :
    Calls Try.prog 31 #[vF pg wd, vN A0 c0 A1 c1 A2 c2 nd] w fun e w' => e = .returned (.func (.func 73) #[] #[.pointer (some ⟨w.heap.size, 0, none⟩), .pointer (some ⟨w.heap.size + 1, 0, none⟩)]) ∧
      w' = (w.alloc (.cells #[.int .i64 pg, .int .i64 wd] 24)).alloc (.cells #[.slice A0 nd.pairs.length c0, .slice A1 nd.seps.length c1, .slice A2 nd.kids.length c2] 29) := by
  have hmf : ∀ (fn : Fn) (first cap : Array Value) (w : World), (Instr.makeFunc fn first cap).run Try.prog w = .ok (.func fn first cap) w := fun _ _ _ _ => rfl
  go_enter Try.func31, Try.ntmps31
  go_wp2
  go_ret
  exact ⟨rfl, rfl⟩

end Go.Proofs.Ytajkoeodabmgeaa
