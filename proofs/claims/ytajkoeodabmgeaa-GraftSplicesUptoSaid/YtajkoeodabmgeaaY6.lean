import Derived.Test.YtajkoeodabmgeaaY5
namespace Go.Proofs.Ytajkoeodabmgeaa
open Go.RowKit
set_option maxHeartbeats 4000000
set_option maxRecDepth 100000
attribute [local go_sem] grow_cell grow_frozen grow_size

theorem refLeafK_v (pg wd : Int) (z : VH) (nd : NodeD) (w : World) (hN : RdN w z.A0 z.c0 z.A1 z.c1 z.A2 z.c2 nd) (b : Bool) (hb : leafB pg wd nd = b) :
    Calls Try.prog 67 #[vF pg wd, vN z.A0 z.c0 z.A1 z.c1 z.A2 z.c2 nd] w fun e w' => e = .returned (.bool b) ∧ Below w.heap.size w w' := by
  subst hb; exact refLeafK_c pg wd _ _ _ _ _ _ nd w hN
theorem refBranchK_v (pg wd : Int) (z : VH) (nd : NodeD) (w : World) (hN : RdN w z.A0 z.c0 z.A1 z.c1 z.A2 z.c2 nd) (b : Bool) (hb : branchB pg wd nd = b) :
    Calls Try.prog 87 #[vF pg wd, vN z.A0 z.c0 z.A1 z.c1 z.A2 z.c2 nd] w fun e w' => e = .returned (.bool b) ∧ Below w.heap.size w w' := by
  subst hb; exact refBranchK_c pg wd _ _ _ _ _ _ nd w hN
theorem ls_start (w : World) : LS (fun _ => False) w (w.alloc (.cells zero3 29)) w.heap.size w.heap.size (.slice none 0 0) (.slice none 0 0) (.slice none 0 0) 0 0 0 [] [] [] :=
  { box := heap_alloc_new _ _, r0 := World.ownsRow_nil _ _ _ _, r1 := World.ownsRow_nil _ _ _ _, r2 := World.ownsRow_nil _ _ _ _, hb := by simp, kp := (Kept.refl _ _).alloc _
    in0 := fun k h => by simp [Value.ownBlock] at h
    in1 := fun k h => by simp [Value.ownBlock] at h
    in2 := fun k h => by simp [Value.ownBlock] at h
    ing := .inr (Nat.le_refl _) }

theorem one_wrong (pg wd : Int) (x : VH) (L : NodeD) (s : ByteArray) (y : VH) (R : NodeD) (w : World) (hr : right pg wd = false) :
    Calls Try.prog 90 #[vF pg wd, vH x L s y R] w fun e w' => JoinPost pg wd L s R w e w' := by
  have HE := Lib.hid (show joinE pg wd L s R = 2 by simp [joinE, hr])
  have HRI := Lib.hid hr
  clear hr
  go_enter Try.func90, Try.ntmps90
  go_wp2_with (first
    | (go_at_call 66; refine (refRight_v pg wd _ _ HRI.out).mono ?_; rintro e w1 ⟨rfl, hb⟩; have hB1 := join_first hb; clear hb; have hg := join_row hB1)
    | (refine wpList_store_row rfl 29 (.tmp 4) (.tmp 10) rfl (w.heap.size + 1 + 1) zero3 rfl rfl 29 _ hg info29' rfl (sl3_one _ _ _ _ _ _ _ _ _) ?_))
  refine bodyPost_ret (results_ct rfl _ _ (w.heap.size + 1 + 1) 29 zero3 (0, 0) _ rfl (setRow_block _ _ _ _ _ _ hg) Try.underlying29 rfl info29') rfl ?_
  exact join_err w _ pg wd L s R 2 HE.out (by decide) (below_setRow (join_below hB1) (by omega) _)

theorem one_neither (pg wd : Int) (x : VH) (L : NodeD) (s : ByteArray) (y : VH) (R : NodeD) (w : World) (hL : RdN w x.A0 x.c0 x.A1 x.c1 x.A2 x.c2 L) (hR : RdN w y.A0 y.c0 y.A1 y.c1 y.A2 y.c2 R) (hr : right pg wd = true) (hl : (leafB pg wd L && leafB pg wd R) = false) (hbr : (branchB pg wd L && branchB pg wd R) = false) :
    Calls Try.prog 90 #[vF pg wd, vH x L s y R] w fun e w' => JoinPost pg wd L s R w e w' := by
  have HE := Lib.hid (show joinE pg wd L s R = 80 by simp [joinE, hr, hl, hbr])
  have HRI := Lib.hid hr
  have HL := Lib.hid hL
  have HRD := Lib.hid hR
  clear hr hL hR
  obtain ⟨b1, hb1⟩ : ∃ b, leafB pg wd L = b := ⟨_, rfl⟩
  obtain ⟨b2, hb2⟩ : ∃ b, leafB pg wd R = b := ⟨_, rfl⟩
  obtain ⟨b3, hb3⟩ : ∃ b, branchB pg wd L = b := ⟨_, rfl⟩
  obtain ⟨b4, hb4⟩ : ∃ b, branchB pg wd R = b := ⟨_, rfl⟩
  rw [hb1, hb2] at hl
  rw [hb3, hb4] at hbr
  have H1 := Lib.hid hb1
  have H2 := Lib.hid hb2
  have H3 := Lib.hid hb3
  have H4 := Lib.hid hb4
  clear hb1 hb2 hb3 hb4
  cases b1 <;> cases b2 <;> cases b3 <;> cases b4 <;> (first | (exact absurd hl (by decide)) | (exact absurd hbr (by decide)) | skip)
  all_goals
    clear hl hbr
    go_enter Try.func90, Try.ntmps90
    go_wp2_with (first
    | (go_at_call 66; go_must (refine (refRight_v pg wd _ _ HRI.out).mono ?_; rintro e w1 ⟨rfl, hb1⟩; have hB1 := join_first hb1; clear hb1; obtain ⟨⟨s0, s1⟩, j0, j1, j2, j3, j4, j5, j6⟩ := join_boxes hB1))
    | (go_at_call 67; skip; (refine (refLeafK_v pg wd x L _ (HL.out.below (join_below hB1)) _ H1.out).mono ?_; rintro e w2 ⟨rfl, hb2⟩; clear s0 s1 j0 j1 j2 j3 j4 j5 j6; have hB2 := join_next hB1 hb2; clear hb2 hB1 H1; obtain ⟨⟨s0, s1⟩, j0, j1, j2, j3, j4, j5, j6⟩ := join_boxes hB2))
    | (go_at_call 67; go_must (refine (refLeafK_v pg wd y R _ (HRD.out.below (join_below hB2)) _ H2.out).mono ?_; rintro e w3 ⟨rfl, hb3⟩; clear s0 s1 j0 j1 j2 j3 j4 j5 j6; have hB2 := join_next hB2 hb3; clear hb3 H2; obtain ⟨⟨s0, s1⟩, j0, j1, j2, j3, j4, j5, j6⟩ := join_boxes hB2))
    | (go_at_call 87; skip; (refine (refBranchK_v pg wd x L _ (HL.out.below (join_below hB2)) _ H3.out).mono ?_; rintro e w4 ⟨rfl, hb4⟩; clear s0 s1 j0 j1 j2 j3 j4 j5 j6; have hB2 := join_next hB2 hb4; clear hb4 H3; obtain ⟨⟨s0, s1⟩, j0, j1, j2, j3, j4, j5, j6⟩ := join_boxes hB2))
    | (go_at_call 87; go_must (refine (refBranchK_v pg wd y R _ (HRD.out.below (join_below hB2)) _ H4.out).mono ?_; rintro e w5 ⟨rfl, hb5⟩; clear s0 s1 j0 j1 j2 j3 j4 j5 j6; have hB2 := join_next hB2 hb5; clear hb5 H4; obtain ⟨⟨s0, s1⟩, j0, j1, j2, j3, j4, j5, j6⟩ := join_boxes hB2))
    | (have hg := join_row hB2; refine wpList_store_row rfl 29 (.tmp 4) (.tmp 35) rfl (w.heap.size + 1 + 1) zero3 rfl rfl 29 _ hg info29' rfl (sl3_one _ _ _ _ _ _ _ _ _) ?_))
    have hg := join_row hB2
    refine bodyPost_ret (results_ct rfl _ _ (w.heap.size + 1 + 1) 29 zero3 (0, 0) _ rfl (setRow_block _ _ _ _ _ _ hg) Try.underlying29 rfl info29') rfl ?_
    exact join_err w _ pg wd L s R 80 HE.out (by decide) (below_setRow (join_below hB2) (by omega) _)

theorem one_leaf_no (pg wd : Int) (x : VH) (L : NodeD) (s : ByteArray) (y : VH) (R : NodeD) (w : World) (hL : RdN w x.A0 x.c0 x.A1 x.c1 x.A2 x.c2 L) (hR : RdN w y.A0 y.c0 y.A1 y.c1 y.A2 y.c2 R) (hr : right pg wd = true) (h1 : leafB pg wd L = true) (h2 : leafB pg wd R = true) (hsm : s.size ≤ 140737488355328) (hst : leafStand pg L s R = false) (hE : joinE pg wd L s R = 81) :
    Calls Try.prog 90 #[vF pg wd, vH x L s y R] w fun e w' => JoinPost pg wd L s R w e w' := by
  have HST : Hid (∀ w, RdN w x.A0 x.c0 x.A1 x.c1 x.A2 x.c2 L → RdN w y.A0 y.c0 y.A1 y.c1 y.A2 y.c2 R → Calls Try.prog 109 #[vF pg wd, vH x L s y R] w fun e w' => e = .returned (.bool false) ∧ Below w.heap.size w w') := Lib.hid (fun w h h' => by have := stands_leaf_c pg wd x L s y R w h h' hsm hr h1 h2; rwa [hst] at this)
  have HE := Lib.hid hE
  have HRI := Lib.hid hr
  have HL := Lib.hid hL
  have HRD := Lib.hid hR
  clear hr hL hR
  have H1 := Lib.hid h1
  have H2 := Lib.hid h2
  clear h1 h2 hst hE hsm
  go_enter Try.func90, Try.ntmps90
  go_wp2_with (first
    | (go_at_call 66; go_must (refine (refRight_v pg wd _ _ HRI.out).mono ?_; rintro e w1 ⟨rfl, hb1⟩; have hB1 := join_first hb1; clear hb1; obtain ⟨⟨s0, s1⟩, j0, j1, j2, j3, j4, j5, j6⟩ := join_boxes hB1))
    | (go_at_call 67; skip; (refine (refLeafK_v pg wd x L _ (HL.out.below (join_below hB1)) _ H1.out).mono ?_; rintro e w2 ⟨rfl, hb2⟩; clear s0 s1 j0 j1 j2 j3 j4 j5 j6; have hB2 := join_next hB1 hb2; clear hb2 hB1 H1; obtain ⟨⟨s0, s1⟩, j0, j1, j2, j3, j4, j5, j6⟩ := join_boxes hB2))
    | (go_at_call 67; go_must (refine (refLeafK_v pg wd y R _ (HRD.out.below (join_below hB2)) _ H2.out).mono ?_; rintro e w3 ⟨rfl, hb3⟩; clear s0 s1 j0 j1 j2 j3 j4 j5 j6; have hB2 := join_next hB2 hb3; clear hb3 H2; obtain ⟨⟨s0, s1⟩, j0, j1, j2, j3, j4, j5, j6⟩ := join_boxes hB2))
    | (go_at_call 87; skip; (refine (refBranchK_v pg wd x L _ (HL.out.below (join_below hB2)) _ H3.out).mono ?_; rintro e w4 ⟨rfl, hb4⟩; clear s0 s1 j0 j1 j2 j3 j4 j5 j6; have hB2 := join_next hB2 hb4; clear hb4 H3; obtain ⟨⟨s0, s1⟩, j0, j1, j2, j3, j4, j5, j6⟩ := join_boxes hB2))
    | (go_at_call 87; go_must (refine (refBranchK_v pg wd y R _ (HRD.out.below (join_below hB2)) _ H4.out).mono ?_; rintro e w5 ⟨rfl, hb5⟩; clear s0 s1 j0 j1 j2 j3 j4 j5 j6; have hB2 := join_next hB2 hb5; clear hb5 H4; obtain ⟨⟨s0, s1⟩, j0, j1, j2, j3, j4, j5, j6⟩ := join_boxes hB2))
    | (go_at_call 109; go_must (refine (HST.out _ (HL.out.below (join_below hB2)) (HRD.out.below (join_below hB2))).mono ?_; rintro e w6 ⟨rfl, hb6⟩; have hB6 := join_next hB2 hb6; clear HST hb6 hB2 HL HRD s0 s1 j0 j1 j2 j3 j4 j5 j6))
    | (have hg := join_row hB6; refine wpList_store_row rfl 29 (.tmp 4) (.tmp 40) rfl (w.heap.size + 1 + 1) zero3 rfl rfl 29 _ hg info29' rfl (sl3_one _ _ _ _ _ _ _ _ _) ?_))
  have hg := join_row hB6
  refine bodyPost_ret (results_ct rfl _ _ (w.heap.size + 1 + 1) 29 zero3 (0, 0) _ rfl (setRow_block _ _ _ _ _ _ hg) Try.underlying29 rfl info29') rfl ?_
  exact join_err w _ pg wd L s R 81 HE.out (by decide) (below_setRow (join_below hB6) (by omega) _)

theorem one_branch_no (pg wd : Int) (x : VH) (L : NodeD) (s : ByteArray) (y : VH) (R : NodeD) (w : World) (hL : RdN w x.A0 x.c0 x.A1 x.c1 x.A2 x.c2 L) (hR : RdN w y.A0 y.c0 y.A1 y.c1 y.A2 y.c2 R) (hr : right pg wd = true) (h1 : branchB pg wd L = true) (h2 : branchB pg wd R = true) (hnl : leafB pg wd L = false) (hsm : s.size ≤ 140737488355328) (hst : brStand pg L s R = false) (hE : joinE pg wd L s R = 81) :
    Calls Try.prog 90 #[vF pg wd, vH x L s y R] w fun e w' => JoinPost pg wd L s R w e w' := by
  have HST : Hid (∀ w, RdN w x.A0 x.c0 x.A1 x.c1 x.A2 x.c2 L → RdN w y.A0 y.c0 y.A1 y.c1 y.A2 y.c2 R → Calls Try.prog 109 #[vF pg wd, vH x L s y R] w fun e w' => e = .returned (.bool false) ∧ Below w.heap.size w w') := Lib.hid (fun w h h' => by have := stands_branch_c pg wd x L s y R w h h' hsm hr h1 h2; rwa [hst] at this)
  have HE := Lib.hid hE
  have HRI := Lib.hid hr
  have HL := Lib.hid hL
  have HRD := Lib.hid hR
  clear hr hL hR
  have H1 := Lib.hid hnl
  have H3 := Lib.hid h1
  have H4 := Lib.hid h2
  clear hnl
  clear h1 h2 hst hE hsm
  go_enter Try.func90, Try.ntmps90
  go_wp2_with (first
    | (go_at_call 66; go_must (refine (refRight_v pg wd _ _ HRI.out).mono ?_; rintro e w1 ⟨rfl, hb1⟩; have hB1 := join_first hb1; clear hb1; obtain ⟨⟨s0, s1⟩, j0, j1, j2, j3, j4, j5, j6⟩ := join_boxes hB1))
    | (go_at_call 67; skip; (refine (refLeafK_v pg wd x L _ (HL.out.below (join_below hB1)) _ H1.out).mono ?_; rintro e w2 ⟨rfl, hb2⟩; clear s0 s1 j0 j1 j2 j3 j4 j5 j6; have hB2 := join_next hB1 hb2; clear hb2 hB1 H1; obtain ⟨⟨s0, s1⟩, j0, j1, j2, j3, j4, j5, j6⟩ := join_boxes hB2))
    | (go_at_call 67; go_must (refine (refLeafK_v pg wd y R _ (HRD.out.below (join_below hB2)) _ H2.out).mono ?_; rintro e w3 ⟨rfl, hb3⟩; clear s0 s1 j0 j1 j2 j3 j4 j5 j6; have hB2 := join_next hB2 hb3; clear hb3 H2; obtain ⟨⟨s0, s1⟩, j0, j1, j2, j3, j4, j5, j6⟩ := join_boxes hB2))
    | (go_at_call 87; skip; (refine (refBranchK_v pg wd x L _ (HL.out.below (join_below hB2)) _ H3.out).mono ?_; rintro e w4 ⟨rfl, hb4⟩; clear s0 s1 j0 j1 j2 j3 j4 j5 j6; have hB2 := join_next hB2 hb4; clear hb4 H3; obtain ⟨⟨s0, s1⟩, j0, j1, j2, j3, j4, j5, j6⟩ := join_boxes hB2))
    | (go_at_call 87; go_must (refine (refBranchK_v pg wd y R _ (HRD.out.below (join_below hB2)) _ H4.out).mono ?_; rintro e w5 ⟨rfl, hb5⟩; clear s0 s1 j0 j1 j2 j3 j4 j5 j6; have hB2 := join_next hB2 hb5; clear hb5 H4; obtain ⟨⟨s0, s1⟩, j0, j1, j2, j3, j4, j5, j6⟩ := join_boxes hB2))
    | (go_at_call 109; go_must (refine (HST.out _ (HL.out.below (join_below hB2)) (HRD.out.below (join_below hB2))).mono ?_; rintro e w6 ⟨rfl, hb6⟩; have hB6 := join_next hB2 hb6; clear HST hb6 hB2 HL HRD s0 s1 j0 j1 j2 j3 j4 j5 j6))
    | (have hg := join_row hB6; refine wpList_store_row rfl 29 (.tmp 4) (.tmp 40) rfl (w.heap.size + 1 + 1) zero3 rfl rfl 29 _ hg info29' rfl (sl3_one _ _ _ _ _ _ _ _ _) ?_))
  have hg := join_row hB6
  refine bodyPost_ret (results_ct rfl _ _ (w.heap.size + 1 + 1) 29 zero3 (0, 0) _ rfl (setRow_block _ _ _ _ _ _ hg) Try.underlying29 rfl info29') rfl ?_
  exact join_err w _ pg wd L s R 81 HE.out (by decide) (below_setRow (join_below hB6) (by omega) _)

end Go.Proofs.Ytajkoeodabmgeaa
