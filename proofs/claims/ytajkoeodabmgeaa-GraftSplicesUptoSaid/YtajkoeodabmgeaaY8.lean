import Derived.Test.YtajkoeodabmgeaaY7
namespace Go.Proofs.Ytajkoeodabmgeaa
open Go.RowKit
set_option maxHeartbeats 4000000
set_option maxRecDepth 100000
attribute [local go_sem] grow_cell grow_frozen grow_size

theorem one_c (pg wd : Int) (x : VH) (L : NodeD) (s : ByteArray) (y : VH) (R : NodeD) (w : World) (hL : RdN w x.A0 x.c0 x.A1 x.c1 x.A2 x.c2 L) (hR : RdN w y.A0 y.c0 y.A1 y.c1 y.A2 y.c2 R) (hJ : JoinOk L s R) :
    Calls Try.prog 90 #[vF pg wd, vH x L s y R] w fun e w' => JoinPost pg wd L s R w e w' := by
  cases hr : right pg wd with
  | false => exact one_wrong pg wd x L s y R w hr
  | true =>
    cases hl : leafB pg wd L && leafB pg wd R with
    | true =>
      have hl' := hl
      rw [Bool.and_eq_true] at hl'
      have hE : joinE pg wd L s R = if leafStand pg L s R then 0 else 81 := by simp [joinE, hr, hl]
      cases hst : leafStand pg L s R with
      | true => exact one_leaf_ok pg wd x L s y R w hL hR hr hl'.1 hl'.2 hJ hst (by rw [hE, hst]; rfl)
      | false => exact one_leaf_no pg wd x L s y R w hL hR hr hl'.1 hl'.2 hJ.s hst (by rw [hE, hst]; rfl)
    | false =>
      cases hb : branchB pg wd L && branchB pg wd R with
      | false => exact one_neither pg wd x L s y R w hL hR hr hl hb
      | true =>
        have hb' := hb
        rw [Bool.and_eq_true] at hb'
        have hnl : leafB pg wd L = false := by
          have := (of_decide_eq_true hb'.1).1
          rw [leafB, decide_eq_false_iff_not]; omega
        have hE : joinE pg wd L s R = if brStand pg L s R then 0 else 81 := by simp [joinE, hr, hl, hb]
        cases hst : brStand pg L s R with
        | true => exact one_branch_ok pg wd x L s y R w hL hR hr hb'.1 hb'.2 hnl hJ hst (by rw [hE, hst]; rfl)
        | false => exact one_branch_no pg wd x L s y R w hL hR hr hb'.1 hb'.2 hnl hJ.s hst (by rw [hE, hst]; rfl)

theorem one_v (pg wd : Int) (x : VH) (L : NodeD) (s : ByteArray) (y : VH) (R : NodeD) (hJ : JoinOk L s R) (J : NodeD) (hJd : joinR pg wd L s R = J) (E : Int) (hEd : joinE pg wd L s R = E) :
    ∀ w, RdN w x.A0 x.c0 x.A1 x.c1 x.A2 x.c2 L → RdN w y.A0 y.c0 y.A1 y.c1 y.A2 y.c2 R → Calls Try.prog 90 #[vF pg wd, vH x L s y R] w fun e w' =>
      ∃ z : VH, e = .returned (.tuple #[vN z.A0 z.c0 z.A1 z.c1 z.A2 z.c2 J, .int .i64 E]) ∧ VH.own z w' w.heap.size w'.heap.size J ∧ Below w.heap.size w w' := by
  subst hJd hEd
  intro w h1 h2
  exact one_c pg wd x L s y R w h1 h2 hJ
theorem refFull_v (pg wd : Int) (z : VH) (nd : NodeD) (w : World) (hN : RdN w z.A0 z.c0 z.A1 z.c1 z.A2 z.c2 nd) (b : Bool) (hb : fullB pg wd nd = b) :
    Calls Try.prog 36 #[vF pg wd, vN z.A0 z.c0 z.A1 z.c1 z.A2 z.c2 nd] w fun e w' => e = .returned (.bool b) ∧ Below w.heap.size w w' := by
  subst hb; exact refFull_c pg wd _ _ _ _ _ _ nd w hN

theorem refMerge_c (pg wd : Int) (x : VH) (L : NodeD) (s : ByteArray) (y : VH) (R : NodeD) (w : World) (hL : RdN w x.A0 x.c0 x.A1 x.c1 x.A2 x.c2 L) (hR : RdN w y.A0 y.c0 y.A1 y.c1 y.A2 y.c2 R) (hJ : JoinOk L s R) :
    Calls Try.prog 56 #[vF pg wd, vH x L s y R] w fun e w' =>
      ∃ z : VH, e = .returned (.tuple #[vN z.A0 z.c0 z.A1 z.c1 z.A2 z.c2 (mergeR pg wd L s R), .int .i64 (mergeE pg wd L s R)]) ∧ VH.own z w' w.heap.size w'.heap.size (mergeR pg wd L s R) ∧ Below w.heap.size w w' := by
  obtain ⟨J, hJd⟩ : ∃ J, joinR pg wd L s R = J := ⟨_, rfl⟩
  obtain ⟨E, hEd⟩ : ∃ E, joinE pg wd L s R = E := ⟨_, rfl⟩
  have HJC := Lib.hid (one_v pg wd x L s y R hJ J hJd E hEd)
  have HL := Lib.hid hL
  have HRD := Lib.hid hR
  clear hJ hL hR
  by_cases hc : E = 0
  · subst hc
    obtain ⟨f, hf⟩ : ∃ f, fullB pg wd J = f := ⟨_, rfl⟩
    have hME : mergeE pg wd L s R = if f = true then 5 else 0 := by simp [mergeE, hJd, hEd, hf]
    have hMR : mergeR pg wd L s R = if f = true then noN else J := by simp [mergeR, hJd, hEd, hf]
    rw [hME, hMR]
    have HF := Lib.hid hf
    clear hf hME hMR hJd hEd
    cases f
    all_goals
      simp only [if_true, Bool.false_eq_true, if_false]
      go_enter Try.func56, Try.ntmps56
      go_wp2_with (first
        | (go_at_call 90; go_must (
           refine (HJC.out _ (HL.out.below join_base) (HRD.out.below join_base)).mono ?_; rintro e w1 ⟨z, rfl, hown, hb⟩
           have hB1 := join_first hb
           have HO := Lib.hid hown
           clear hown hb
           obtain ⟨⟨s0, s1⟩, _⟩ := join_boxes hB1
           have hz := join_size hB1
           have z0 : w.heap.size < w1.heap.size := (by omega)))
        | (go_at_call 36; go_must (
           refine (refFull_v pg wd z J _ ((OwN.rd HO.out).below ((Below.refl _ _).alloc (Nat.le_refl _) _)) _ HF.out).mono ?_; rintro e w2 ⟨rfl, hb2⟩
           have hB2 := join_next hB1 (below_a hb2)
           have hg := join_row hB2
           have hr := one_row hb2
           have HO2 := Lib.hid (OwN.below HO.out (below_a hb2))
           have hsz := (below_a hb2).size
           obtain ⟨⟨p0, p1, p2⟩, _⟩ := box_facts hr
           clear s0 s1 z0))
        | (refine wpList_store_row rfl 29 (.tmp 4) (.tmp 21) rfl (w.heap.size + 1 + 1) zero3 rfl rfl 29 _ hg info29' rfl (sl3_one _ _ _ _ _ _ _ _ _) ?_)
        | (refine wpList_store_row rfl 29 (.tmp 4) (.tmp 22) rfl (w.heap.size + 1 + 1) (node3 z J) rfl rfl 29 _ hg info29' rfl (sl3_one _ _ _ _ _ _ _ _ _) ?_))
      first
        | (refine bodyPost_ret (results_ct rfl _ _ (w.heap.size + 1 + 1) 29 zero3 (0, 0) _ rfl (setRow_block _ _ _ _ _ _ hg) Try.underlying29 rfl info29') rfl ?_
           exact ⟨⟨none, 0, none, 0, none, 0⟩, rfl, own_noN _ _ _, below_setRow (join_below hB2) (by omega) _⟩)
        | (refine bodyPost_ret (results_ct rfl _ _ (w.heap.size + 1 + 1) 29 (node3 z J) (0, 0) _ rfl (setRow_block _ _ _ _ _ _ hg) Try.underlying29 rfl info29') rfl ?_
           exact ⟨z, rfl, (OwN.setRow' (OwN.wide HO2.out (Nat.le_refl _) (Nat.le_refl _)) _ _ (.inl (by simp))).wide (by simp <;> omega) (by simp [World.setRow]; omega), below_setRow (join_below hB2) (by omega) _⟩)
  · have hcc : (E != 0) = true := by simp [hc]
    have hME : mergeE pg wd L s R = E := by rw [mergeE, hEd, if_neg (fun h => hc h.1)]
    have hMR : mergeR pg wd L s R = noN := by rw [mergeR, hEd, if_neg (fun h => hc h.1), joinR, hEd, if_neg hc]
    rw [hME, hMR]
    clear hME hMR hJd hEd hc
    go_enter Try.func56, Try.ntmps56
    go_wp2_with (first
      | (go_at_call 90; go_must (
         refine (HJC.out _ (HL.out.below join_base) (HRD.out.below join_base)).mono ?_; rintro e w1 ⟨z, rfl, hown, hb⟩
         have hB1 := join_first hb
         have hz := join_size hB1
         have hg := join_row (hB1.alloc hz (.cells (node3 z J) 29))
         have hb' := (join_below hB1).alloc (by omega) (.cells (node3 z J) 29)
         clear hown hb))
      | (refine wpList_store_row rfl 29 (.tmp 4) (.tmp 16) rfl (w.heap.size + 1 + 1) zero3 rfl rfl 29 _ hg info29' rfl (sl3_one _ _ _ _ _ _ _ _ _) ?_))
    refine bodyPost_ret (results_ct rfl _ _ (w.heap.size + 1 + 1) 29 zero3 (0, 0) _ rfl (setRow_block _ _ _ _ _ _ hg) Try.underlying29 rfl info29') rfl ?_
    exact ⟨⟨none, 0, none, 0, none, 0⟩, rfl, own_noN _ _ _, below_setRow hb' (by omega) _⟩

end Go.Proofs.Ytajkoeodabmgeaa
