import Derived.Test.YtajkoeodabmgeaaC5
namespace Go.Proofs.Ytajkoeodabmgeaa
open Go.RowKit
set_option maxHeartbeats 2000000
set_option maxRecDepth 100000
attribute [local go_sem] grow_cell grow_frozen grow_size freeS_size

theorem sizeD_le {pg : Int} {wd : Nat} {w : World} {A0 A1 A2 : Option Addr} {c0 c1 c2 : Nat} {nd : NodeD} (hN : RdN w A0 c0 A1 c1 A2 c2 nd) (hr : right pg wd = true) (hsh : shaped pg wd nd) : sizeD wd nd ≤ 36028797018963968 := by
  obtain ⟨⟨h0, h1⟩, h2, h3⟩ := right_spec hr
  have hp := hN.hp
  have hs := hN.hs
  have hk := hN.hk
  by_cases hl : leafD nd
  · rw [sizeD, if_pos hl]
    have hkb : ∀ p ∈ nd.pairs, psz p ≤ 3074 := by
      simp only [shaped, hl, if_true] at hsh
      intro p hp
      obtain ⟨i, hi, e⟩ := List.getElem_of_mem hp
      have a := (hsh.1 i (by simpa using hi)).1.2
      have b : ¬ pg / 8 < p.v.size := fun h => hsh.2 ⟨p, hp, h⟩
      simp only [List.getElem_map, e] at a
      have := tx_le p.k; have := tx_le p.v; unfold psz; omega
    have := sum_le psz 3074 nd.pairs hkb
    have := cnt_le nd.pairs.length
    omega
  · rw [sizeD, if_neg hl]
    have hkb : ∀ p ∈ nd.seps, tx p ≤ 1025 := by
      simp only [shaped, hl, if_false] at hsh
      intro p hp
      obtain ⟨i, hi, e⟩ := List.getElem_of_mem hp
      have a := (hsh.2.2.2.2 i (by simpa using hi)).1.2
      rw [e] at a
      have := tx_le p; omega
    have := sum_le tx 1025 nd.seps hkb
    have := cnt_le nd.kids.length
    have : nd.kids.length * (4 + wd) ≤ nd.kids.length * 36 := Nat.mul_le_mul_left _ (by omega)
    omega

theorem sizeE_bd {pg wd : Int} {w : World} {A0 A1 A2 : Option Addr} {c0 c1 c2 : Nat} {nd : NodeD} (hN : RdN w A0 c0 A1 c1 A2 c2 nd) : 0 ≤ sizeE pg wd nd ∧ sizeE pg wd nd ≤ 36028797018963968 := by
  unfold sizeE
  split
  · rename_i h
    obtain ⟨hr, hs⟩ := checkE_zero h
    obtain ⟨wn, rfl⟩ : ∃ n : Nat, wd = n := ⟨wd.toNat, by have := right_spec hr; omega⟩
    have := sizeD_le hN hr hs
    simp only [Int.toNat_natCast]
    omega
  · omega

theorem leafB_iff {pg wd : Int} {nd : NodeD} : leafB pg wd nd = decide (checkE pg wd nd = 0 ∧ leafD nd) := by
  unfold leafB
  rw [Bool.eq_iff_iff, decide_eq_true_iff, decide_eq_true_iff]
  constructor
  · rintro ⟨a, b⟩
    refine ⟨b, ?_⟩
    obtain ⟨_, hs⟩ := checkE_zero b
    by_cases h : leafD nd
    · exact h
    · rw [shaped, if_neg h] at hs; omega
  · rintro ⟨a, b⟩; exact ⟨b.2, a⟩

theorem branchB_iff {pg wd : Int} {nd : NodeD} : branchB pg wd nd = decide (checkE pg wd nd = 0 ∧ ¬ leafD nd) := by
  unfold branchB
  rw [Bool.eq_iff_iff, decide_eq_true_iff, decide_eq_true_iff]
  constructor
  · rintro ⟨a, b⟩
    exact ⟨b, fun h => by unfold leafD at h; omega⟩
  · rintro ⟨a, b⟩
    refine ⟨?_, a⟩
    obtain ⟨_, hs⟩ := checkE_zero a
    rw [shaped, if_neg b] at hs; omega

theorem refLeafK_c (pg wd : Int) (A0 A1 A2 : Option Addr) (c0 c1 c2 : Nat) (nd : NodeD) (w : World) (hN : RdN w A0 c0 A1 c1 A2 c2 nd) :
    Calls Try.prog 67 #[vF pg wd, vN A0 c0 A1 c1 A2 c2 nd] w fun e w' => e = .returned (.bool (leafB pg wd nd)) ∧ Below w.heap.size w w' := by
  have HN := Lib.hid hN
  clear hN
  by_cases hc : checkE pg wd nd = 0
  · by_cases hl : leafD nd
    all_goals
      have hlf : decide (nd.seps.length = 0 ∧ nd.kids.length = 0) = decide (leafD nd) := rfl
      have hfin : leafB pg wd nd = decide (leafD nd) := by rw [leafB_iff]; simp [hc, hl]
      simp only [hl, decide_true, decide_false] at hlf
      have HC := Lib.hid hc
      have HLF := Lib.hid hlf
      have HF := Lib.hid hfin
      have HL := Lib.hid hl
      clear hc hlf hfin hl
      go_enter Try.func67, Try.ntmps67
      go_wp2_with (first
        | (go_at_call 69; refine (refCheck_v pg wd A0 A1 A2 c0 c1 c2 nd _ (HN.out.boxes below_start) 0 HC.out).mono ?_; rintro e w1 ⟨rfl, hb⟩; have hBB := below_first hb; clear hb; obtain ⟨⟨q0, q1⟩, ⟨q2, q3, q4⟩, q5⟩ := two_boxes hBB)
        | (go_at_call 70; refine (refLeaf_c _ _ _ _ _ _ _ _ _ _ _ HLF.out).mono ?_; rintro e w2 ⟨rfl, hb⟩; have hBn := below_s0 hBB (by omega) hb; clear hBB hb q0 q1 q2 q3 q4 q5; have hBB := hBn; clear hBn; obtain ⟨⟨q0, q1⟩, ⟨q2, q3, q4⟩, q5⟩ := two_boxes hBB))
      go_ret
      exact ⟨ret_eq (by rw [HF.out]; simp [HL.out]), below_aa (hBB.mono (by simp))⟩
  · have hne : (checkE pg wd nd == 0) = false := by simp [hc]
    have hfin : leafB pg wd nd = false := by rw [leafB_iff]; simp [hc]
    have HF := Lib.hid hfin
    clear hc hfin
    go_enter Try.func67, Try.ntmps67
    go_wp2_with (first
      | (go_at_call 69; refine (refCheck_c pg wd A0 A1 A2 c0 c1 c2 nd _ (HN.out.boxes below_start)).mono ?_; rintro e w1 ⟨rfl, hb⟩; have hBB := below_first hb; clear hb; obtain ⟨⟨q0, q1⟩, ⟨q2, q3, q4⟩, q5⟩ := two_boxes hBB))
    go_ret
    exact ⟨ret_eq (by rw [HF.out]; rfl), below_aa (hBB.mono (by simp))⟩

theorem refBranchK_c (pg wd : Int) (A0 A1 A2 : Option Addr) (c0 c1 c2 : Nat) (nd : NodeD) (w : World) (hN : RdN w A0 c0 A1 c1 A2 c2 nd) :
    Calls Try.prog 87 #[vF pg wd, vN A0 c0 A1 c1 A2 c2 nd] w fun e w' => e = .returned (.bool (branchB pg wd nd)) ∧ Below w.heap.size w w' := by
  have HN := Lib.hid hN
  clear hN
  by_cases hc : checkE pg wd nd = 0
  · by_cases hl : leafD nd
    all_goals
      have hlf : decide (nd.seps.length = 0 ∧ nd.kids.length = 0) = decide (leafD nd) := rfl
      have hfin : branchB pg wd nd = decide (¬ leafD nd) := by rw [branchB_iff]; simp [hc, hl]
      simp only [hl, decide_true, decide_false] at hlf
      have HC := Lib.hid hc
      have HLF := Lib.hid hlf
      have HF := Lib.hid hfin
      have HL := Lib.hid hl
      clear hc hlf hfin hl
      go_enter Try.func87, Try.ntmps87
      go_wp2_with (first
        | (go_at_call 69; refine (refCheck_v pg wd A0 A1 A2 c0 c1 c2 nd _ (HN.out.boxes below_start) 0 HC.out).mono ?_; rintro e w1 ⟨rfl, hb⟩; have hBB := below_first hb; clear hb; obtain ⟨⟨q0, q1⟩, ⟨q2, q3, q4⟩, q5⟩ := two_boxes hBB)
        | (go_at_call 70; refine (refLeaf_c _ _ _ _ _ _ _ _ _ _ _ HLF.out).mono ?_; rintro e w2 ⟨rfl, hb⟩; have hBn := below_s0 hBB (by omega) hb; clear hBB hb q0 q1 q2 q3 q4 q5; have hBB := hBn; clear hBn; obtain ⟨⟨q0, q1⟩, ⟨q2, q3, q4⟩, q5⟩ := two_boxes hBB))
      go_ret
      exact ⟨ret_eq (by rw [HF.out]; simp [HL.out]), below_aa (hBB.mono (by simp))⟩
  · have hne : (checkE pg wd nd == 0) = false := by simp [hc]
    have hfin : branchB pg wd nd = false := by rw [branchB_iff]; simp [hc]
    have HF := Lib.hid hfin
    clear hc hfin
    go_enter Try.func87, Try.ntmps87
    go_wp2_with (first
      | (go_at_call 69; refine (refCheck_c pg wd A0 A1 A2 c0 c1 c2 nd _ (HN.out.boxes below_start)).mono ?_; rintro e w1 ⟨rfl, hb⟩; have hBB := below_first hb; clear hb; obtain ⟨⟨q0, q1⟩, ⟨q2, q3, q4⟩, q5⟩ := two_boxes hBB))
    go_ret
    exact ⟨ret_eq (by rw [HF.out]; rfl), below_aa (hBB.mono (by simp))⟩

theorem refFull_c (pg wd : Int) (A0 A1 A2 : Option Addr) (c0 c1 c2 : Nat) (nd : NodeD) (w : World) (hN : RdN w A0 c0 A1 c1 A2 c2 nd) :
    Calls Try.prog 36 #[vF pg wd, vN A0 c0 A1 c1 A2 c2 nd] w fun e w' => e = .returned (.bool (fullB pg wd nd)) ∧ Below w.heap.size w w' := by
  have HN := Lib.hid hN
  obtain ⟨hz0, hz1⟩ := sizeE_bd (pg := pg) (wd := wd) hN
  clear hN
  by_cases hc : checkE pg wd nd = 0
  · obtain ⟨hr, _⟩ := checkE_zero hc
    obtain ⟨⟨h0, h1⟩, h2, h3⟩ := right_spec hr
    have hfin : fullB pg wd nd = decide (pg - 32 < sizeE pg wd nd) := by unfold fullB; simp only [hc, true_and] <;> (rw [Bool.eq_iff_iff, decide_eq_true_iff, decide_eq_true_iff]; omega)
    have HF := Lib.hid hfin
    have HC := Lib.hid hc
    clear hfin hc hr
    go_enter Try.func36, Try.ntmps36
    go_wp2
    refine wp_region_grow (by kernel_rfl) (by kernel_rfl) ?_
    repeat (any_goals (first | go_big_quiet_step (((first | (go_at_call 69; exact quiet_below (refCheck_v pg wd A0 A1 A2 c0 c1 c2 nd _ (HN.out.grown2 _) 0 HC.out)) | (go_at_call 72; exact quiet_below (refSize_c pg wd A0 A1 A2 c0 c1 c2 nd _ (HN.out.grown2 _)))))) | quiet_step (((first | (go_at_call 69; exact quiet_below (refCheck_v pg wd A0 A1 A2 c0 c1 c2 nd _ (HN.out.grown2 _) 0 HC.out)) | (go_at_call 72; exact quiet_below (refSize_c pg wd A0 A1 A2 c0 c1 c2 nd _ (HN.out.grown2 _))))))))
    refine wpQuiet_nil ?_
    intro w1 hb
    go_wp2
    go_ret
    exact ⟨ret_eq (by rw [HF.out]; rfl), below_aa hb⟩
  · have hfin : fullB pg wd nd = false := by simp [fullB, hc]
    have hne : (checkE pg wd nd == 0) = false := by simp [hc]
    have HF := Lib.hid hfin
    clear hfin hc
    go_enter Try.func36, Try.ntmps36
    go_wp2
    refine wp_region_grow (by kernel_rfl) (by kernel_rfl) ?_
    repeat (any_goals (first | go_big_quiet_step (((go_at_call 69; exact quiet_below (refCheck_c pg wd A0 A1 A2 c0 c1 c2 nd _ (HN.out.grown2 _))))) | quiet_step (((go_at_call 69; exact quiet_below (refCheck_c pg wd A0 A1 A2 c0 c1 c2 nd _ (HN.out.grown2 _)))))))
    refine wpQuiet_nil ?_
    intro w1 hb
    go_wp2
    go_ret
    exact ⟨ret_eq (by rw [HF.out]; rfl), below_aa hb⟩

theorem refThin_c (pg wd : Int) (A0 A1 A2 : Option Addr) (c0 c1 c2 : Nat) (nd : NodeD) (w : World) (hN : RdN w A0 c0 A1 c1 A2 c2 nd) :
    Calls Try.prog 38 #[vF pg wd, vN A0 c0 A1 c1 A2 c2 nd] w fun e w' => e = .returned (.bool (thinB pg wd nd)) ∧ Below w.heap.size w w' := by
  have HN := Lib.hid hN
  obtain ⟨hz0, hz1⟩ := sizeE_bd (pg := pg) (wd := wd) hN
  clear hN
  by_cases hc : checkE pg wd nd = 0
  · obtain ⟨hr, _⟩ := checkE_zero hc
    obtain ⟨⟨h0, h1⟩, h2, h3⟩ := right_spec hr
    have hfin : thinB pg wd nd = decide (3 * sizeE pg wd nd < pg - 32) := by unfold thinB; simp only [hc, true_and] <;> (rw [Bool.eq_iff_iff, decide_eq_true_iff, decide_eq_true_iff]; omega)
    have HF := Lib.hid hfin
    have HC := Lib.hid hc
    clear hfin hc hr
    go_enter Try.func38, Try.ntmps38
    go_wp2
    refine wp_region_grow (by kernel_rfl) (by kernel_rfl) ?_
    repeat (any_goals (first | go_big_quiet_step (((first | (go_at_call 69; exact quiet_below (refCheck_v pg wd A0 A1 A2 c0 c1 c2 nd _ (HN.out.grown2 _) 0 HC.out)) | (go_at_call 72; exact quiet_below (refSize_c pg wd A0 A1 A2 c0 c1 c2 nd _ (HN.out.grown2 _)))))) | quiet_step (((first | (go_at_call 69; exact quiet_below (refCheck_v pg wd A0 A1 A2 c0 c1 c2 nd _ (HN.out.grown2 _) 0 HC.out)) | (go_at_call 72; exact quiet_below (refSize_c pg wd A0 A1 A2 c0 c1 c2 nd _ (HN.out.grown2 _))))))))
    refine wpQuiet_nil ?_
    intro w1 hb
    go_wp2
    go_ret
    exact ⟨ret_eq (by rw [HF.out]; rfl), below_aa hb⟩
  · have hfin : thinB pg wd nd = false := by simp [thinB, hc]
    have hne : (checkE pg wd nd == 0) = false := by simp [hc]
    have HF := Lib.hid hfin
    clear hfin hc
    go_enter Try.func38, Try.ntmps38
    go_wp2
    refine wp_region_grow (by kernel_rfl) (by kernel_rfl) ?_
    repeat (any_goals (first | go_big_quiet_step (((go_at_call 69; exact quiet_below (refCheck_c pg wd A0 A1 A2 c0 c1 c2 nd _ (HN.out.grown2 _))))) | quiet_step (((go_at_call 69; exact quiet_below (refCheck_c pg wd A0 A1 A2 c0 c1 c2 nd _ (HN.out.grown2 _)))))))
    refine wpQuiet_nil ?_
    intro w1 hb
    go_wp2
    go_ret
    exact ⟨ret_eq (by rw [HF.out]; rfl), below_aa hb⟩

end Go.Proofs.Ytajkoeodabmgeaa
