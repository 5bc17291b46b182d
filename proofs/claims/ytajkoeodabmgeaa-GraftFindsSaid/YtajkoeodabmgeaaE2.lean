import Derived.Test.YtajkoeodabmgeaaE1
namespace Go.Proofs.Ytajkoeodabmgeaa
open Go.RowKit
set_option maxHeartbeats 2000000
set_option maxRecDepth 100000
attribute [local go_sem] grow_cell grow_frozen grow_size

theorem same_c (A0 A1 A2 B0 B1 B2 : Option Addr) (c0 c1 c2 d0 d1 d2 : Nat) (nd : NodeD) (w : World) (hA : RdN w A0 c0 A1 c1 A2 c2 nd) (hB : RdN w B0 d0 B1 d1 B2 d2 nd) :
    Calls Try.prog 50 #[vN A0 c0 A1 c1 A2 c2 nd, vN B0 d0 B1 d1 B2 d2 nd] w fun e w' => e = .returned (.bool true) ∧ Below w.heap.size w w' := by
  have hpl := hA.hp
  have hsl := hA.hs
  have hkl := hA.hk
  have HKK := Lib.hid hA.kk
  have HA := Lib.hid hA
  have HB := Lib.hid hB
  have e1 : ((nd.pairs.length : Int) != nd.pairs.length) = false := by simp
  have e2 : ((nd.seps.length : Int) != nd.seps.length) = false := by simp
  have e3 : ((nd.kids.length : Int) != nd.kids.length) = false := by simp
  clear hA hB
  go_enter Try.func50, Try.ntmps50
  go_wp2
  go_loopw [5] (fun i wr => ∃ k : Nat, k ≤ nd.pairs.length ∧ i = .int .i64 k ∧ Below (w.heap.size + 1 + 1) ((w.alloc (.cells #[.slice A0 nd.pairs.length c0, .slice A1 nd.seps.length c1, .slice A2 nd.kids.length c2] 29)).alloc (.cells #[.slice B0 nd.pairs.length d0, .slice B1 nd.seps.length d1, .slice B2 nd.kids.length d2] 29)) wr) (fun i _ => nd.pairs.length - (intOf i).toNat)
  case atStart => exact ⟨0, Nat.zero_le _, rfl, Below.refl _ _⟩
  case round =>
    obtain ⟨k, hk, rfl, hBB⟩ := hrel
    obtain ⟨⟨q0, q1, q2⟩, ⟨q3, q4, q5⟩, q6⟩ := two_nodes hBB
    have q7 : w.heap.size < wr.heap.size := by omega
    by_cases hlt : k < nd.pairs.length
    · obtain ⟨ab, ao, rfl, hk0, hk1⟩ := pairs_at (HA.out.nodes hBB).pairs hlt
      obtain ⟨bb, bo, rfl, hj0, hj1⟩ := pairs_at (HB.out.nodes hBB).pairs hlt
      have habl : ab < wr.heap.size := World.block_lt_of_cell? _ _ hk0
      have hbbl : bb < wr.heap.size := World.block_lt_of_cell? _ _ hj0
      have hki : (k : Int) < nd.pairs.length := by omega
      go_wp2
      refine wp_region_grow (by kernel_rfl) (by kernel_rfl) ?_
      repeat (any_goals (first | go_big_quiet_step (fail) | quiet_step (fail)))
      refine wpQuiet_nil ?_
      intro w3 hb
      go_wp2
      go_roundw
      case rel => exact ⟨k + 1, by omega, by go_num, below_s0 hBB (by omega) hb⟩
      case measure => simp [intOf]; omega
    · have hlt' : ¬ ((k : Int) < nd.pairs.length) := by omega
      go_wp2
      clear q0 q1 q2 q3 q4 q5 q6
      obtain ⟨wa, rfl⟩ : ∃ wa : World, wa = wr := ⟨_, rfl⟩
      go_loopw [6] (fun i wr => ∃ k : Nat, k ≤ nd.seps.length ∧ i = .int .i64 k ∧ Below (w.heap.size + 1 + 1) ((w.alloc (.cells #[.slice A0 nd.pairs.length c0, .slice A1 nd.seps.length c1, .slice A2 nd.kids.length c2] 29)).alloc (.cells #[.slice B0 nd.pairs.length d0, .slice B1 nd.seps.length d1, .slice B2 nd.kids.length d2] 29)) wr) (fun i _ => nd.seps.length - (intOf i).toNat)
      case atStart => exact ⟨0, Nat.zero_le _, rfl, hBB⟩
      case round =>
        clear hBB
        obtain ⟨k2, hk2, rfl, hBB⟩ := hrel
        obtain ⟨⟨q0, q1, q2⟩, ⟨q3, q4, q5⟩, q6⟩ := two_nodes hBB
        have q7 : w.heap.size < wr.heap.size := by omega
        by_cases hlt : k2 < nd.seps.length
        · obtain ⟨ab, ao, rfl, hk0⟩ := seps_at (HA.out.nodes hBB).seps hlt
          obtain ⟨bb, bo, rfl, hj0⟩ := seps_at (HB.out.nodes hBB).seps hlt
          have habl : ab < wr.heap.size := World.block_lt_of_cell? _ _ hk0
          have hbbl : bb < wr.heap.size := World.block_lt_of_cell? _ _ hj0
          have hki : (k2 : Int) < nd.seps.length := by omega
          go_wp2
          refine wp_region_grow (by kernel_rfl) (by kernel_rfl) ?_
          repeat (any_goals (first | go_big_quiet_step (fail) | quiet_step (fail)))
          refine wpQuiet_nil ?_
          intro w3 hb
          go_wp2
          go_roundw
          case rel => exact ⟨k2 + 1, by omega, by go_num, below_s0 hBB (by omega) hb⟩
          case measure => simp [intOf]; omega
        · have hlt' : ¬ ((k2 : Int) < nd.seps.length) := by omega
          go_wp2
          clear q0 q1 q2 q3 q4 q5 q6
          obtain ⟨wb, rfl⟩ : ∃ wb : World, wb = wr := ⟨_, rfl⟩
          go_loopw [7] (fun i wr => ∃ k : Nat, k ≤ nd.kids.length ∧ i = .int .i64 k ∧ Below (w.heap.size + 1 + 1) ((w.alloc (.cells #[.slice A0 nd.pairs.length c0, .slice A1 nd.seps.length c1, .slice A2 nd.kids.length c2] 29)).alloc (.cells #[.slice B0 nd.pairs.length d0, .slice B1 nd.seps.length d1, .slice B2 nd.kids.length d2] 29)) wr) (fun i _ => nd.kids.length - (intOf i).toNat)
          case atStart => exact ⟨0, Nat.zero_le _, rfl, hBB⟩
          case round =>
            clear hBB
            obtain ⟨k3, hk3, rfl, hBB⟩ := hrel
            obtain ⟨⟨q0, q1, q2⟩, ⟨q3, q4, q5⟩, q6⟩ := two_nodes hBB
            have q7 : w.heap.size < wr.heap.size := by omega
            by_cases hlt : k3 < nd.kids.length
            · obtain ⟨ab, ao, rfl, hk0⟩ := kids_at (HA.out.nodes hBB).kids HKK.out hlt
              obtain ⟨bb, bo, rfl, hj0⟩ := kids_at (HB.out.nodes hBB).kids HKK.out hlt
              have hsum := Lib.hid (HKK.out _ (List.getElem_mem hlt))
              have HK0 := Lib.hid hk0
              have HJ0 := Lib.hid hj0
              have hre : (!kidEq nd.kids[k3] nd.kids[k3]) = false := by rw [kidEq_refl]; rfl
              have hki : (k3 : Int) < nd.kids.length := by omega
              clear hk0 hj0
              go_wp2
              refine wp_region_grow (by kernel_rfl) (by kernel_rfl) ?_
              repeat (any_goals (first
                | (refine wpQuiet_load85 (o := ⟨some 80, _, _, _, _, _⟩) rfl (.tmp 79) rfl ab _ rfl nd.kids[k3] hsum.out HK0.out ?_)
                | (refine wpQuiet_load85 (o := ⟨some 85, _, _, _, _, _⟩) rfl (.tmp 84) rfl bb _ rfl nd.kids[k3] hsum.out HJ0.out ?_)
                | (refine wpQuiet_neq85 (o := ⟨some 86, _, _, _, _, _⟩) rfl (.tmp 80) (.tmp 85) rfl nd.kids[k3] nd.kids[k3] rfl rfl hsum.out hsum.out ?_)
                | go_big_quiet_step (fail) | quiet_step (fail)))
              refine wpQuiet_nil ?_
              intro w3 hb
              rw [hre]
              go_wp2
              go_roundw
              case rel => exact ⟨k3 + 1, by omega, by go_num, below_s0 hBB (by omega) hb⟩
              case measure => simp [intOf]; omega
            · have hlt' : ¬ ((k3 : Int) < nd.kids.length) := by omega
              go_wp2
              go_ret
              exact ⟨rfl, below_aa (hBB.mono (by simp))⟩

end Go.Proofs.Ytajkoeodabmgeaa
