import Derived.Test.YtajkoeodabmgeaaM3
namespace Go.Proofs.Ytajkoeodabmgeaa
open Go.RowKit
set_option maxHeartbeats 2000000
set_option maxRecDepth 100000

theorem kept_c (A0 A1 A2 B0 B1 B2 : Option Addr) (c0 c1 c2 d0 d1 d2 : Nat) (nd : NodeD) (w : World) (hX : RdN w B0 d0 B1 d1 B2 d2 (longN nd 4)) (hN : RdN w A0 c0 A1 c1 A2 c2 nd) :
    Calls Try.prog 24 #[vN B0 d0 B1 d1 B2 d2 nd, vN A0 c0 A1 c1 A2 c2 nd] w fun e w' => e = .returned (.bool true) ∧ Below w.heap.size w w' := by
  obtain ⟨l0, l1, l2⟩ := long_len nd 4
  have hcp := hX.hcp
  have hcs := hX.hcs
  have hck := hX.hck
  have hp := hN.hp
  have hs := hN.hs
  have hk := hN.hk
  rw [l0] at hcp
  rw [l1] at hcs
  rw [l2] at hck
  have g0 : (nd.pairs.length : Int) + 4 ≤ d0 := by omega
  have g1 : (nd.seps.length : Int) + 4 ≤ d1 := by omega
  have g2 : (nd.kids.length : Int) + 4 ≤ d2 := by omega
  have z0 : (0 : Int) ≤ (nd.pairs.length : Int) + 4 := by omega
  have z1 : (0 : Int) ≤ (nd.seps.length : Int) + 4 := by omega
  have z2 : (0 : Int) ≤ (nd.kids.length : Int) + 4 := by omega
  obtain ⟨b0, o0, b1, o1, b2, o2, rfl, rfl, rfl, _, _, _⟩ := marks_at hX (j := 0) (by omega)
  have HM : Hid (∀ W, Below w.heap.size w W → ∀ j, j < 4 → W.cell? ⟨b0, o0 + (nd.pairs.length + j) * 2, none⟩ = some (.string ⟨#[109, 97, 114, 107]⟩) ∧
      W.cell? ⟨b1, o1 + (nd.seps.length + j), none⟩ = some (.string ⟨#[109, 97, 114, 107]⟩) ∧ W.cell? ⟨b2, o2 + (nd.kids.length + j) * 33, none⟩ = some (.int .u32 77)) := by
    intro W hW j hj
    obtain ⟨_, _, _, _, _, _, h0, h1, h2, p⟩ := marks_at (hX.below hW) hj
    cases h0; cases h1; cases h2
    exact p
  have HX := Lib.hid hX.short
  have HN := Lib.hid hN
  clear hX hN l0 l1 l2 hcp hcs hck
  go_enter Try.func24, Try.ntmps24
  go_wp2_with (first
    | (go_at_call 50; refine (same_c _ _ _ _ _ _ _ _ _ _ _ _ nd _ (HX.out.nodes (Below.refl _ _)) (HN.out.nodes (Below.refl _ _))).mono ?_; rintro e w1 ⟨rfl, hb⟩; have hBB := hb.mono (B' := w.heap.size + 1 + 1) (by simp); clear hb; obtain ⟨⟨q0, q1, q2⟩, ⟨q3, q4, q5⟩, q6⟩ := two_nodes hBB))
  clear q0 q1 q2 q3 q4 q5 q6
  obtain ⟨wa, rfl⟩ : ∃ wa : World, wa = w1 := ⟨_, rfl⟩
  go_loopw [8] (fun i wr => ∃ k : Nat, k ≤ 4 ∧ i = .int .i64 k ∧ Below (w.heap.size + 1 + 1) ((w.alloc (.cells #[.slice (some ⟨b0, o0, none⟩) nd.pairs.length d0, .slice (some ⟨b1, o1, none⟩) nd.seps.length d1, .slice (some ⟨b2, o2, none⟩) nd.kids.length d2] 29)).alloc (.cells #[.slice A0 nd.pairs.length c0, .slice A1 nd.seps.length c1, .slice A2 nd.kids.length c2] 29)) wr) (fun i _ => 4 - (intOf i).toNat)
  case atStart => exact ⟨0, by omega, rfl, hBB⟩
  case round =>
    clear hBB
    obtain ⟨k, hkk, rfl, hBB⟩ := hrel
    obtain ⟨⟨q0, q1, q2⟩, ⟨q3, q4, q5⟩, q6⟩ := two_nodes hBB
    have hBw : Below w.heap.size w wr := (((Below.refl _ _).alloc (Nat.le_refl _) _).alloc (by simp) _).trans (hBB.mono (by omega))
    by_cases hlt : k < 4
    · obtain ⟨p0, p1, p2⟩ := HM.out wr hBw k hlt
      have hki : (k : Int) < 4 := by omega
      have f0 : (nd.pairs.length : Int) + k < (nd.pairs.length : Int) + 4 := by omega
      have f1 : (nd.seps.length : Int) + k < (nd.seps.length : Int) + 4 := by omega
      have f2 : (nd.kids.length : Int) + k < (nd.kids.length : Int) + 4 := by omega
      have y0 : (0 : Int) ≤ (nd.pairs.length : Int) + k := by omega
      have y1 : (0 : Int) ≤ (nd.seps.length : Int) + k := by omega
      have y2 : (0 : Int) ≤ (nd.kids.length : Int) + k := by omega
      have t0 : ((nd.pairs.length : Int) + k).toNat = nd.pairs.length + k := by omega
      have t1 : ((nd.seps.length : Int) + k).toNat = nd.seps.length + k := by omega
      have t2 : ((nd.kids.length : Int) + k).toNat = nd.kids.length + k := by omega
      go_wp2
      go_roundw
      case rel => exact ⟨k + 1, by omega, by go_num, hBB⟩
      case measure => simp [intOf]; omega
    · obtain rfl : k = 4 := by omega
      go_wp2
      go_ret
      exact ⟨rfl, hBw⟩

end Go.Proofs.Ytajkoeodabmgeaa
