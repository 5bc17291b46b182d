import Derived.Test.YtajkoeodabmgeaaZ12

section
namespace Go.Proofs.Ytajkoeodabmgeaa
open Go.RowKit
set_option maxHeartbeats 4000000
set_option maxRecDepth 100000
attribute [local go_sem] grow_cell grow_frozen grow_size

theorem join_fin_leaf (w w1 : World) (pg wd : Int) (L R : NodeD) (s : ByteArray) (hE : joinE pg wd L s R = 0) (hk : L.kids.length = 0) (LR : List PairD) (hLR : L.pairs ++ R.pairs = LR) (A : Option Addr) (c : Nat) (hb : Below w.heap.size w w1)
    (h : OwN w1 w.heap.size w1.heap.size A c none 0 none 0 ⟨LR, [], []⟩) :
    JoinPost pg wd L s R w (Ending.returned (.tuple #[.agg #[.slice A LR.length c, .slice none 0 0, .slice none 0 0], .int .i64 0])) w1 := by
  have hR : joinR pg wd L s R = ⟨LR, [], []⟩ := by rw [joinR, if_pos hE, joinN, if_pos hk, hLR]
  refine ⟨⟨A, c, none, 0, none, 0⟩, ?_, ?_, hb⟩
  · rw [hR, hE]; rfl
  · rw [hR]; exact h

theorem join_leaf_g1 (pg wd : Int) (x : VH) (L : NodeD) (s : ByteArray) (y : VH) (R : NodeD) (w : World) (hL : RdN w x.A0 x.c0 x.A1 x.c1 x.A2 x.c2 L) (hR : RdN w y.A0 y.c0 y.A1 y.c1 y.A2 y.c2 R) (hsm : s.size ≤ 140737488355328)
    (hr : right pg wd = true) (h1 : leafB pg wd L = true) (h2 : leafB pg wd R = true) (k1 : (s.toList == []) = false) (k2 : decide ((s.size : Int) ≤ pg / 16) = true) (hm : L.pairs.length = 0) (hn : R.pairs.length = 0) (hE : joinE pg wd L s R = 0) (hroom : (L.pairs.length + R.pairs.length) * 32 ≤ 140737488355328) :
    Calls Try.prog 89 #[vF pg wd, vH x L s y R] w fun e w' => JoinPost pg wd L s R w e w' := by
  obtain ⟨⟨h0', h1'⟩, _, _⟩ := right_spec hr
  have h0 : 0 ≤ pg := by omega
  have HRI := Lib.hid hr
  have HL := Lib.hid hL
  have HRD := Lib.hid hR
  have HB1 := Lib.hid h1
  have HB2 := Lib.hid h2
  have hlp := hL.hp
  have hrp := hR.hp
  have HSM : Hid (s.size ≤ 140737488355328) := Lib.hid hsm
  clear hr h1 h2 hL hR h0'
  have h1 := h1'
  have HE := Lib.hid hE
  clear hE
  have HK : Hid (L.kids.length = 0) := Lib.hid (of_decide_eq_true HB1.out).1
  have HRM := Lib.hid hroom
  clear hroom
  obtain ⟨LR, hLR⟩ : ∃ LR, L.pairs ++ R.pairs = LR := ⟨_, rfl⟩
  have HLRR := Lib.hid hLR
  clear hLR
  have HM := Lib.hid hm
  clear hm
  have HNN := Lib.hid hn
  clear hn
  go_enter Try.func89, Try.ntmps89
  go_wp2_with (first
    | (go_at_call 61; refine (frame_v pg wd _ _ HRI.out).mono ?_; rintro e w1 ⟨rfl, hb⟩; have hB1 := join_first hb; clear hb))
  refine region_mid (α := Nat × Nat) (fun X a => ((((((a.put (some 15) (.pointer (some ⟨w.heap.size + 1, 0, none⟩))).put (some 16) (vN x.A0 x.c0 x.A1 x.c1 x.A2 x.c2 L)).put (some 17) (.pointer (some ⟨w.heap.size + 1, 4, none⟩))).put (some 18) (vN y.A0 y.c0 y.A1 y.c1 y.A2 y.c2 R)).put (some 6) (.pointer (some ⟨X.1, 0, none⟩))).put (some 7) (.pointer (some ⟨X.2, 0, none⟩)))) (fun X W => JoinG w pg wd x L s y R X W) ?region ?rest
  case region =>
    have HF := Lib.hid (fun W (h : Below (w.heap.size + 1 + 1 + 1) (joinW w pg wd x L s y R) W) => join_boxes h)
    refine wp_region_tree (S := Below (w.heap.size + 1 + 1 + 1) (joinW w pg wd x L s y R)) (.take 0 (.take 1 (.take 2 (.take 3 (.two 4 5 (.run 5 (.run 6 (.run 7 (.done)))) (.run 4 (.run 6 (.run 7 (.done)))))))))
      (by kernel_rfl) (by kernel_rfl) (by kernel_rfl) (by rintro c a d v W ⟨X, h, _⟩; cases h) hB1.drew ?_
    repeat (apply tree_take; (exact rfl); rfl; (intro W hW; obtain ⟨⟨q0, q1⟩, q2, q3, q4, q5, q6, q7, q8⟩ := HF.out W hW; go_simp; (try with_reducible rfl)); simp only [Act.put, List.setIfInBounds_toArray, List.set_cons_zero, List.set_cons_succ])
    have hlo : w.heap.size + 1 + 1 + 1 ≤ w1.drew.heap.size := join_size hB1.drew
    have h1 := hB1.drew.alloc hlo (.cells zero3 29)
    have h2 := h1.alloc (by rw [World.size_alloc]; omega) (.cells zero3 29)
    have r1 : ((w1.drew.alloc (.cells zero3 29)).alloc (.cells zero3 29)).heap[w1.drew.heap.size]? = some (.cells zero3 29 (0, 0)) := (Below.heap_alloc _ _ _ (by simp)).trans (heap_alloc_new _ _)
    have r2 : ((w1.drew.alloc (.cells zero3 29)).alloc (.cells zero3 29)).heap[w1.drew.heap.size + 1]? = some (.cells zero3 29 (0, 0)) := alloc2_at _ _ _
    refine tree_two ?_ ?_
    ·
      apply tree_run; (exact rfl); rfl; intro K hK; go_simp
      refine hK.out _ _ h1 (fun _ => ?_)
      clear hK K
      try simp only [Act.put, List.setIfInBounds_toArray, List.set_cons_zero, List.set_cons_succ]
      apply tree_run; (exact rfl); rfl; intro K hK; go_simp
      refine hK.out _ _ h2 (fun _ => ?_)
      clear hK K
      try simp only [Act.put, List.setIfInBounds_toArray, List.set_cons_zero, List.set_cons_succ]
      have hG := joinG_store (w := w) (pg := pg) (wd := wd) (x := x) (y := y) (L := L) (R := R) (s := s) h2 r1 r2 (by omega) (by omega) (by omega)
      apply tree_run; (exact rfl); rfl; intro K hK
      refine wp_store_row 29 (.tmp 6) (.tmp 16) rfl (w1.drew.heap.size) (node3 x L) rfl rfl 29 zero3 r1 info29' rfl (sl3_one _ _ _ _ _ _ _ _ _) ?_
      refine hK.out _ _ (below_setRow h2 (by omega) _) (fun _ => ?_)
      clear hK K
      try simp only [Act.put]
      apply tree_run; (exact rfl); rfl; intro K hK
      refine wp_store_row 29 (.tmp 7) (.tmp 18) rfl (w1.drew.heap.size + 1) (node3 y R) rfl rfl 29 zero3 ((setRow_other _ _ _ _ (by omega)).trans r2) info29' rfl (sl3_one _ _ _ _ _ _ _ _ _) ?_
      refine hK.out _ _ hG.bl (fun _ => ?_)
      clear hK K
      try simp only [Act.put]
      exact tree_done ⟨(w1.drew.heap.size, w1.drew.heap.size + 1), rfl, rfl, hG⟩
    ·
      apply tree_run; (exact rfl); rfl; intro K hK; go_simp
      refine hK.out _ _ h1 (fun _ => ?_)
      clear hK K
      try simp only [Act.put, List.setIfInBounds_toArray, List.set_cons_zero, List.set_cons_succ]
      apply tree_run; (exact rfl); rfl; intro K hK; go_simp
      refine hK.out _ _ h2 (fun _ => ?_)
      clear hK K
      try simp only [Act.put, List.setIfInBounds_toArray, List.set_cons_zero, List.set_cons_succ]
      have hG := joinG_store (w := w) (pg := pg) (wd := wd) (x := x) (y := y) (L := L) (R := R) (s := s) h2 r2 r1 (by omega) (by omega) (by omega)
      apply tree_run; (exact rfl); rfl; intro K hK
      refine wp_store_row 29 (.tmp 6) (.tmp 16) rfl (w1.drew.heap.size + 1) (node3 x L) rfl rfl 29 zero3 r2 info29' rfl (sl3_one _ _ _ _ _ _ _ _ _) ?_
      refine hK.out _ _ (below_setRow h2 (by omega) _) (fun _ => ?_)
      clear hK K
      try simp only [Act.put]
      apply tree_run; (exact rfl); rfl; intro K hK
      refine wp_store_row 29 (.tmp 7) (.tmp 18) rfl (w1.drew.heap.size) (node3 y R) rfl rfl 29 zero3 ((setRow_other _ _ _ _ (by omega)).trans r1) info29' rfl (sl3_one _ _ _ _ _ _ _ _ _) ?_
      refine hK.out _ _ hG.bl (fun _ => ?_)
      clear hK K
      try simp only [Act.put]
      exact tree_done ⟨(w1.drew.heap.size + 1, w1.drew.heap.size), rfl, rfl, hG⟩
  case rest =>
  rintro ⟨g1, g2⟩ W hG
  have HG0 := Lib.hid hG
  have HLR := Lib.hid (fun W (h : JoinG w pg wd x L s y R (g1, g2) W) => HL.out.below (join_below h.bl))
  have HRR := Lib.hid (fun W (h : JoinG w pg wd x L s y R (g1, g2) W) => HRD.out.below (join_below h.bl))
  clear hG
  obtain ⟨⟨⟨s0, s1⟩, s2⟩, ⟨m0, m1, m2⟩, ⟨n0, n1, n2⟩, ⟨z0, z1, z2, z3⟩⟩ := HG0.out.facts
  simp only [Act.put, List.setIfInBounds_toArray, List.set_cons_zero, List.set_cons_succ]
  dsimp only at m0 m1 m2 n0 n1 n2 z2 z3
  go_wp2_with (first
    | (go_at_call 62; skip; (refine (leaf_v pg wd _ _ _ _ _ _ L _ (HLR.out _ HG0.out) _ HB1.out).mono ?_; rintro e w2 ⟨rfl, hb2⟩; have HG1 := Lib.hid (HG0.out.next hb2); clear hb2 HG0 HB1; clear s0 s1 s2 m0 m1 m2 n0 n1 n2 z0 z1 z2 z3; obtain ⟨⟨⟨s0, s1⟩, s2⟩, ⟨m0, m1, m2⟩, ⟨n0, n1, n2⟩, ⟨z0, z1, z2, z3⟩⟩ := HG1.out.facts; dsimp only at m0 m1 m2 n0 n1 n2 z2 z3))
    | (go_at_call 62; go_must (refine (leaf_v pg wd _ _ _ _ _ _ R _ (HRR.out _ HG1.out) _ HB2.out).mono ?_; rintro e w3 ⟨rfl, hb3⟩; have HG2 := Lib.hid (HG1.out.next hb3); clear hb3 HG1 HB2; clear s0 s1 s2 m0 m1 m2 n0 n1 n2 z0 z1 z2 z3; obtain ⟨⟨⟨s0, s1⟩, s2⟩, ⟨m0, m1, m2⟩, ⟨n0, n1, n2⟩, ⟨z0, z1, z2, z3⟩⟩ := HG2.out.facts; dsimp only at m0 m1 m2 n0 n1 n2 z2 z3)))
  refine wp_region_grow (by kernel_rfl) (by kernel_rfl) ?_
  repeat (any_goals (first | go_big_quiet_step ((go_at_call 63; exact quiet_below (maxKey_c pg wd _ h0 h1))) | quiet_step ((go_at_call 63; exact quiet_below (maxKey_c pg wd _ h0 h1)))))
  refine wpQuiet_nil ?_
  intro w3 hb
  have HG3 := Lib.hid (HG2.out.next hb)
  clear hb HG2
  clear s0 s1 s2 m0 m1 m2 n0 n1 n2 z0 z1 z2 z3; obtain ⟨⟨⟨s0, s1⟩, s2⟩, ⟨m0, m1, m2⟩, ⟨n0, n1, n2⟩, ⟨z0, z1, z2, z3⟩⟩ := HG3.out.facts; dsimp only at m0 m1 m2 n0 n1 n2 z2 z3
  go_wp2
  rw [HM.out] at m0
  refine wp_region_grow (by kernel_rfl) (by kernel_rfl) ?_
  repeat (any_goals (first | go_big_quiet_step (fail) | quiet_step (fail)))
  refine wpQuiet_nil ?_
  intro w4 hb
  have HG4 := Lib.hid (HG3.out.next hb)
  clear hb HG3
  clear s0 s1 s2 m0 m1 m2 n0 n1 n2 z0 z1 z2 z3; obtain ⟨⟨⟨s0, s1⟩, s2⟩, ⟨m0, m1, m2⟩, ⟨n0, n1, n2⟩, ⟨z0, z1, z2, z3⟩⟩ := HG4.out.facts; dsimp only at m0 m1 m2 n0 n1 n2 z2 z3
  go_wp2
  rw [HNN.out] at n0
  refine wp_region_grow (by kernel_rfl) (by kernel_rfl) ?_
  repeat (any_goals (first | go_big_quiet_step (fail) | quiet_step (fail)))
  refine wpQuiet_nil ?_
  intro w5 hb
  have HG5 := Lib.hid (HG4.out.next hb)
  clear hb HG4
  clear s0 s1 s2 m0 m1 m2 n0 n1 n2 z0 z1 z2 z3; obtain ⟨⟨⟨s0, s1⟩, s2⟩, ⟨m0, m1, m2⟩, ⟨n0, n1, n2⟩, ⟨z0, z1, z2, z3⟩⟩ := HG5.out.facts; dsimp only at m0 m1 m2 n0 n1 n2 z2 z3
  go_wp2_with (first
    | (go_at_call 65; go_must (refine (putP_at x.A0 y.A0 x.c0 y.c0 L.pairs R.pairs _ (HLR.out _ HG5.out).pairs (HRR.out _ HG5.out).pairs HL.out.hcp HRM.out L.pairs.length 0 _ _ rfl rfl (by omega) LR (by simpa using HLRR.out)).mono ?_; rintro e w6 ⟨⟨A, c, rfl, hown⟩, hb6⟩; have hB6 := join_next HG5.out.bl hb6; have hg := join_row hB6; have HO := Lib.hid hown; clear hown))
    | (refine wpList_store_row rfl 29 (.tmp 4) (.tmp 86) rfl (w.heap.size + 1 + 1) #[.slice A LR.length c, .slice none 0 0, .slice none 0 0] rfl rfl 29 _ hg info29' rfl (sl3_one _ _ _ _ _ _ _ _ _) ?_))
  refine bodyPost_ret (results_ct rfl _ _ (w.heap.size + 1 + 1) 29 #[.slice A LR.length c, .slice none 0 0, .slice none 0 0] (0, 0) _ rfl (setRow_block _ _ _ _ _ _ hg) Try.underlying29 rfl info29') rfl ?_
  have hlen : LR.length = L.pairs.length + R.pairs.length := by rw [← HLRR.out, List.length_append]
  have hsz5 := join_size HG5.out.bl
  have hO := OwN.leaf HO.out (Nat.le_refl _) (by rw [hlen]; exact HRM.out) (fun q hq => by rw [← HLRR.out] at hq; exact (List.mem_append.1 hq).elim (HL.out.pk q) (HRD.out.pk q))
  exact join_fin_leaf w _ pg wd L R s HE.out HK.out LR HLRR.out A c (below_setRow (join_below hB6) (by omega) _) ((hO.setRow' _ _ (.inl (by omega))).wide (by omega) (by simp [World.setRow]))


theorem join_leaf_g2 (pg wd : Int) (x : VH) (L : NodeD) (s : ByteArray) (y : VH) (R : NodeD) (w : World) (hL : RdN w x.A0 x.c0 x.A1 x.c1 x.A2 x.c2 L) (hR : RdN w y.A0 y.c0 y.A1 y.c1 y.A2 y.c2 R) (hsm : s.size ≤ 140737488355328)
    (hr : right pg wd = true) (h1 : leafB pg wd L = true) (h2 : leafB pg wd R = true) (k1 : (s.toList == []) = false) (k2 : decide ((s.size : Int) ≤ pg / 16) = true) (hm : L.pairs.length = 0) (n : Nat) (hn : R.pairs.length = n + 1) (rk : ByteArray) (hrk : keyAt R.pairs 0 = rk) (hq : Op.bytesLess rk.toList s.toList = false) (hE : joinE pg wd L s R = 0) (hroom : (L.pairs.length + R.pairs.length) * 32 ≤ 140737488355328) :
    Calls Try.prog 89 #[vF pg wd, vH x L s y R] w fun e w' => JoinPost pg wd L s R w e w' := by
  obtain ⟨⟨h0', h1'⟩, _, _⟩ := right_spec hr
  have h0 : 0 ≤ pg := by omega
  have HRI := Lib.hid hr
  have HL := Lib.hid hL
  have HRD := Lib.hid hR
  have HB1 := Lib.hid h1
  have HB2 := Lib.hid h2
  have hlp := hL.hp
  have hrp := hR.hp
  have HSM : Hid (s.size ≤ 140737488355328) := Lib.hid hsm
  clear hr h1 h2 hL hR h0'
  have h1 := h1'
  have HE := Lib.hid hE
  clear hE
  have HK : Hid (L.kids.length = 0) := Lib.hid (of_decide_eq_true HB1.out).1
  have HRM := Lib.hid hroom
  clear hroom
  obtain ⟨LR, hLR⟩ : ∃ LR, L.pairs ++ R.pairs = LR := ⟨_, rfl⟩
  have HLRR := Lib.hid hLR
  clear hLR
  have HM := Lib.hid hm
  clear hm
  have HNN := Lib.hid hn
  have HRK := Lib.hid hrk
  clear hn hrk
  go_enter Try.func89, Try.ntmps89
  go_wp2_with (first
    | (go_at_call 61; refine (frame_v pg wd _ _ HRI.out).mono ?_; rintro e w1 ⟨rfl, hb⟩; have hB1 := join_first hb; clear hb))
  refine region_mid (α := Nat × Nat) (fun X a => ((((((a.put (some 15) (.pointer (some ⟨w.heap.size + 1, 0, none⟩))).put (some 16) (vN x.A0 x.c0 x.A1 x.c1 x.A2 x.c2 L)).put (some 17) (.pointer (some ⟨w.heap.size + 1, 4, none⟩))).put (some 18) (vN y.A0 y.c0 y.A1 y.c1 y.A2 y.c2 R)).put (some 6) (.pointer (some ⟨X.1, 0, none⟩))).put (some 7) (.pointer (some ⟨X.2, 0, none⟩)))) (fun X W => JoinG w pg wd x L s y R X W) ?region ?rest
  case region =>
    have HF := Lib.hid (fun W (h : Below (w.heap.size + 1 + 1 + 1) (joinW w pg wd x L s y R) W) => join_boxes h)
    refine wp_region_tree (S := Below (w.heap.size + 1 + 1 + 1) (joinW w pg wd x L s y R)) (.take 0 (.take 1 (.take 2 (.take 3 (.two 4 5 (.run 5 (.run 6 (.run 7 (.done)))) (.run 4 (.run 6 (.run 7 (.done)))))))))
      (by kernel_rfl) (by kernel_rfl) (by kernel_rfl) (by rintro c a d v W ⟨X, h, _⟩; cases h) hB1.drew ?_
    repeat (apply tree_take; (exact rfl); rfl; (intro W hW; obtain ⟨⟨q0, q1⟩, q2, q3, q4, q5, q6, q7, q8⟩ := HF.out W hW; go_simp; (try with_reducible rfl)); simp only [Act.put, List.setIfInBounds_toArray, List.set_cons_zero, List.set_cons_succ])
    have hlo : w.heap.size + 1 + 1 + 1 ≤ w1.drew.heap.size := join_size hB1.drew
    have h1 := hB1.drew.alloc hlo (.cells zero3 29)
    have h2 := h1.alloc (by rw [World.size_alloc]; omega) (.cells zero3 29)
    have r1 : ((w1.drew.alloc (.cells zero3 29)).alloc (.cells zero3 29)).heap[w1.drew.heap.size]? = some (.cells zero3 29 (0, 0)) := (Below.heap_alloc _ _ _ (by simp)).trans (heap_alloc_new _ _)
    have r2 : ((w1.drew.alloc (.cells zero3 29)).alloc (.cells zero3 29)).heap[w1.drew.heap.size + 1]? = some (.cells zero3 29 (0, 0)) := alloc2_at _ _ _
    refine tree_two ?_ ?_
    ·
      apply tree_run; (exact rfl); rfl; intro K hK; go_simp
      refine hK.out _ _ h1 (fun _ => ?_)
      clear hK K
      try simp only [Act.put, List.setIfInBounds_toArray, List.set_cons_zero, List.set_cons_succ]
      apply tree_run; (exact rfl); rfl; intro K hK; go_simp
      refine hK.out _ _ h2 (fun _ => ?_)
      clear hK K
      try simp only [Act.put, List.setIfInBounds_toArray, List.set_cons_zero, List.set_cons_succ]
      have hG := joinG_store (w := w) (pg := pg) (wd := wd) (x := x) (y := y) (L := L) (R := R) (s := s) h2 r1 r2 (by omega) (by omega) (by omega)
      apply tree_run; (exact rfl); rfl; intro K hK
      refine wp_store_row 29 (.tmp 6) (.tmp 16) rfl (w1.drew.heap.size) (node3 x L) rfl rfl 29 zero3 r1 info29' rfl (sl3_one _ _ _ _ _ _ _ _ _) ?_
      refine hK.out _ _ (below_setRow h2 (by omega) _) (fun _ => ?_)
      clear hK K
      try simp only [Act.put]
      apply tree_run; (exact rfl); rfl; intro K hK
      refine wp_store_row 29 (.tmp 7) (.tmp 18) rfl (w1.drew.heap.size + 1) (node3 y R) rfl rfl 29 zero3 ((setRow_other _ _ _ _ (by omega)).trans r2) info29' rfl (sl3_one _ _ _ _ _ _ _ _ _) ?_
      refine hK.out _ _ hG.bl (fun _ => ?_)
      clear hK K
      try simp only [Act.put]
      exact tree_done ⟨(w1.drew.heap.size, w1.drew.heap.size + 1), rfl, rfl, hG⟩
    ·
      apply tree_run; (exact rfl); rfl; intro K hK; go_simp
      refine hK.out _ _ h1 (fun _ => ?_)
      clear hK K
      try simp only [Act.put, List.setIfInBounds_toArray, List.set_cons_zero, List.set_cons_succ]
      apply tree_run; (exact rfl); rfl; intro K hK; go_simp
      refine hK.out _ _ h2 (fun _ => ?_)
      clear hK K
      try simp only [Act.put, List.setIfInBounds_toArray, List.set_cons_zero, List.set_cons_succ]
      have hG := joinG_store (w := w) (pg := pg) (wd := wd) (x := x) (y := y) (L := L) (R := R) (s := s) h2 r2 r1 (by omega) (by omega) (by omega)
      apply tree_run; (exact rfl); rfl; intro K hK
      refine wp_store_row 29 (.tmp 6) (.tmp 16) rfl (w1.drew.heap.size + 1) (node3 x L) rfl rfl 29 zero3 r2 info29' rfl (sl3_one _ _ _ _ _ _ _ _ _) ?_
      refine hK.out _ _ (below_setRow h2 (by omega) _) (fun _ => ?_)
      clear hK K
      try simp only [Act.put]
      apply tree_run; (exact rfl); rfl; intro K hK
      refine wp_store_row 29 (.tmp 7) (.tmp 18) rfl (w1.drew.heap.size) (node3 y R) rfl rfl 29 zero3 ((setRow_other _ _ _ _ (by omega)).trans r1) info29' rfl (sl3_one _ _ _ _ _ _ _ _ _) ?_
      refine hK.out _ _ hG.bl (fun _ => ?_)
      clear hK K
      try simp only [Act.put]
      exact tree_done ⟨(w1.drew.heap.size + 1, w1.drew.heap.size), rfl, rfl, hG⟩
  case rest =>
  rintro ⟨g1, g2⟩ W hG
  have HG0 := Lib.hid hG
  have HLR := Lib.hid (fun W (h : JoinG w pg wd x L s y R (g1, g2) W) => HL.out.below (join_below h.bl))
  have HRR := Lib.hid (fun W (h : JoinG w pg wd x L s y R (g1, g2) W) => HRD.out.below (join_below h.bl))
  clear hG
  obtain ⟨⟨⟨s0, s1⟩, s2⟩, ⟨m0, m1, m2⟩, ⟨n0, n1, n2⟩, ⟨z0, z1, z2, z3⟩⟩ := HG0.out.facts
  simp only [Act.put, List.setIfInBounds_toArray, List.set_cons_zero, List.set_cons_succ]
  dsimp only at m0 m1 m2 n0 n1 n2 z2 z3
  go_wp2_with (first
    | (go_at_call 62; skip; (refine (leaf_v pg wd _ _ _ _ _ _ L _ (HLR.out _ HG0.out) _ HB1.out).mono ?_; rintro e w2 ⟨rfl, hb2⟩; have HG1 := Lib.hid (HG0.out.next hb2); clear hb2 HG0 HB1; clear s0 s1 s2 m0 m1 m2 n0 n1 n2 z0 z1 z2 z3; obtain ⟨⟨⟨s0, s1⟩, s2⟩, ⟨m0, m1, m2⟩, ⟨n0, n1, n2⟩, ⟨z0, z1, z2, z3⟩⟩ := HG1.out.facts; dsimp only at m0 m1 m2 n0 n1 n2 z2 z3))
    | (go_at_call 62; go_must (refine (leaf_v pg wd _ _ _ _ _ _ R _ (HRR.out _ HG1.out) _ HB2.out).mono ?_; rintro e w3 ⟨rfl, hb3⟩; have HG2 := Lib.hid (HG1.out.next hb3); clear hb3 HG1 HB2; clear s0 s1 s2 m0 m1 m2 n0 n1 n2 z0 z1 z2 z3; obtain ⟨⟨⟨s0, s1⟩, s2⟩, ⟨m0, m1, m2⟩, ⟨n0, n1, n2⟩, ⟨z0, z1, z2, z3⟩⟩ := HG2.out.facts; dsimp only at m0 m1 m2 n0 n1 n2 z2 z3)))
  refine wp_region_grow (by kernel_rfl) (by kernel_rfl) ?_
  repeat (any_goals (first | go_big_quiet_step ((go_at_call 63; exact quiet_below (maxKey_c pg wd _ h0 h1))) | quiet_step ((go_at_call 63; exact quiet_below (maxKey_c pg wd _ h0 h1)))))
  refine wpQuiet_nil ?_
  intro w3 hb
  have HG3 := Lib.hid (HG2.out.next hb)
  clear hb HG2
  clear s0 s1 s2 m0 m1 m2 n0 n1 n2 z0 z1 z2 z3; obtain ⟨⟨⟨s0, s1⟩, s2⟩, ⟨m0, m1, m2⟩, ⟨n0, n1, n2⟩, ⟨z0, z1, z2, z3⟩⟩ := HG3.out.facts; dsimp only at m0 m1 m2 n0 n1 n2 z2 z3
  go_wp2
  rw [HM.out] at m0
  refine wp_region_grow (by kernel_rfl) (by kernel_rfl) ?_
  repeat (any_goals (first | go_big_quiet_step (fail) | quiet_step (fail)))
  refine wpQuiet_nil ?_
  intro w4 hb
  have HG4 := Lib.hid (HG3.out.next hb)
  clear hb HG3
  clear s0 s1 s2 m0 m1 m2 n0 n1 n2 z0 z1 z2 z3; obtain ⟨⟨⟨s0, s1⟩, s2⟩, ⟨m0, m1, m2⟩, ⟨n0, n1, n2⟩, ⟨z0, z1, z2, z3⟩⟩ := HG4.out.facts; dsimp only at m0 m1 m2 n0 n1 n2 z2 z3
  go_wp2
  have hn := HNN.out
  obtain ⟨bb, bo, bx, bk, bj⟩ := pairs_at (HRR.out _ HG4.out).pairs (show 0 < R.pairs.length by omega)
  clear bj
  rw [← keyAt_get (show 0 < R.pairs.length by omega), HRK.out] at bk
  have bb4 : bb < w4.heap.size := World.block_lt_of_cell? _ _ bk
  simp only [Nat.zero_mul, Nat.add_zero] at bk
  rw [bx, hn] at n0; clear hn
  refine wp_region_grow (by kernel_rfl) (by kernel_rfl) ?_
  repeat (any_goals (first | go_big_quiet_step (fail) | quiet_step (fail)))
  refine wpQuiet_nil ?_
  intro w5 hb
  have HG5 := Lib.hid (HG4.out.next hb)
  clear hb HG4
  clear s0 s1 s2 m0 m1 m2 n0 n1 n2 z0 z1 z2 z3; obtain ⟨⟨⟨s0, s1⟩, s2⟩, ⟨m0, m1, m2⟩, ⟨n0, n1, n2⟩, ⟨z0, z1, z2, z3⟩⟩ := HG5.out.facts; dsimp only at m0 m1 m2 n0 n1 n2 z2 z3
  clear bk bb4 bx
  go_wp2_with (first
    | (go_at_call 65; go_must (refine (putP_at x.A0 y.A0 x.c0 y.c0 L.pairs R.pairs _ (HLR.out _ HG5.out).pairs (HRR.out _ HG5.out).pairs HL.out.hcp HRM.out L.pairs.length 0 _ _ rfl rfl (by omega) LR (by simpa using HLRR.out)).mono ?_; rintro e w6 ⟨⟨A, c, rfl, hown⟩, hb6⟩; have hB6 := join_next HG5.out.bl hb6; have hg := join_row hB6; have HO := Lib.hid hown; clear hown))
    | (refine wpList_store_row rfl 29 (.tmp 4) (.tmp 86) rfl (w.heap.size + 1 + 1) #[.slice A LR.length c, .slice none 0 0, .slice none 0 0] rfl rfl 29 _ hg info29' rfl (sl3_one _ _ _ _ _ _ _ _ _) ?_))
  refine bodyPost_ret (results_ct rfl _ _ (w.heap.size + 1 + 1) 29 #[.slice A LR.length c, .slice none 0 0, .slice none 0 0] (0, 0) _ rfl (setRow_block _ _ _ _ _ _ hg) Try.underlying29 rfl info29') rfl ?_
  have hlen : LR.length = L.pairs.length + R.pairs.length := by rw [← HLRR.out, List.length_append]
  have hsz5 := join_size HG5.out.bl
  have hO := OwN.leaf HO.out (Nat.le_refl _) (by rw [hlen]; exact HRM.out) (fun q hq => by rw [← HLRR.out] at hq; exact (List.mem_append.1 hq).elim (HL.out.pk q) (HRD.out.pk q))
  exact join_fin_leaf w _ pg wd L R s HE.out HK.out LR HLRR.out A c (below_setRow (join_below hB6) (by omega) _) ((hO.setRow' _ _ (.inl (by omega))).wide (by omega) (by simp [World.setRow]))


theorem join_leaf_g3 (pg wd : Int) (x : VH) (L : NodeD) (s : ByteArray) (y : VH) (R : NodeD) (w : World) (hL : RdN w x.A0 x.c0 x.A1 x.c1 x.A2 x.c2 L) (hR : RdN w y.A0 y.c0 y.A1 y.c1 y.A2 y.c2 R) (hsm : s.size ≤ 140737488355328)
    (hr : right pg wd = true) (h1 : leafB pg wd L = true) (h2 : leafB pg wd R = true) (k1 : (s.toList == []) = false) (k2 : decide ((s.size : Int) ≤ pg / 16) = true) (m : Nat) (hm : L.pairs.length = m + 1) (lk : ByteArray) (hlk : keyAt L.pairs m = lk) (ho : Op.bytesLess lk.toList s.toList = true) (hn : R.pairs.length = 0) (hE : joinE pg wd L s R = 0) (hroom : (L.pairs.length + R.pairs.length) * 32 ≤ 140737488355328) :
    Calls Try.prog 89 #[vF pg wd, vH x L s y R] w fun e w' => JoinPost pg wd L s R w e w' := by
  obtain ⟨⟨h0', h1'⟩, _, _⟩ := right_spec hr
  have h0 : 0 ≤ pg := by omega
  have HRI := Lib.hid hr
  have HL := Lib.hid hL
  have HRD := Lib.hid hR
  have HB1 := Lib.hid h1
  have HB2 := Lib.hid h2
  have hlp := hL.hp
  have hrp := hR.hp
  have HSM : Hid (s.size ≤ 140737488355328) := Lib.hid hsm
  clear hr h1 h2 hL hR h0'
  have h1 := h1'
  have HE := Lib.hid hE
  clear hE
  have HK : Hid (L.kids.length = 0) := Lib.hid (of_decide_eq_true HB1.out).1
  have HRM := Lib.hid hroom
  clear hroom
  obtain ⟨LR, hLR⟩ : ∃ LR, L.pairs ++ R.pairs = LR := ⟨_, rfl⟩
  have HLRR := Lib.hid hLR
  clear hLR
  have HM := Lib.hid hm
  have HLK := Lib.hid hlk
  clear hm hlk
  have HNN := Lib.hid hn
  clear hn
  go_enter Try.func89, Try.ntmps89
  go_wp2_with (first
    | (go_at_call 61; refine (frame_v pg wd _ _ HRI.out).mono ?_; rintro e w1 ⟨rfl, hb⟩; have hB1 := join_first hb; clear hb))
  refine region_mid (α := Nat × Nat) (fun X a => ((((((a.put (some 15) (.pointer (some ⟨w.heap.size + 1, 0, none⟩))).put (some 16) (vN x.A0 x.c0 x.A1 x.c1 x.A2 x.c2 L)).put (some 17) (.pointer (some ⟨w.heap.size + 1, 4, none⟩))).put (some 18) (vN y.A0 y.c0 y.A1 y.c1 y.A2 y.c2 R)).put (some 6) (.pointer (some ⟨X.1, 0, none⟩))).put (some 7) (.pointer (some ⟨X.2, 0, none⟩)))) (fun X W => JoinG w pg wd x L s y R X W) ?region ?rest
  case region =>
    have HF := Lib.hid (fun W (h : Below (w.heap.size + 1 + 1 + 1) (joinW w pg wd x L s y R) W) => join_boxes h)
    refine wp_region_tree (S := Below (w.heap.size + 1 + 1 + 1) (joinW w pg wd x L s y R)) (.take 0 (.take 1 (.take 2 (.take 3 (.two 4 5 (.run 5 (.run 6 (.run 7 (.done)))) (.run 4 (.run 6 (.run 7 (.done)))))))))
      (by kernel_rfl) (by kernel_rfl) (by kernel_rfl) (by rintro c a d v W ⟨X, h, _⟩; cases h) hB1.drew ?_
    repeat (apply tree_take; (exact rfl); rfl; (intro W hW; obtain ⟨⟨q0, q1⟩, q2, q3, q4, q5, q6, q7, q8⟩ := HF.out W hW; go_simp; (try with_reducible rfl)); simp only [Act.put, List.setIfInBounds_toArray, List.set_cons_zero, List.set_cons_succ])
    have hlo : w.heap.size + 1 + 1 + 1 ≤ w1.drew.heap.size := join_size hB1.drew
    have h1 := hB1.drew.alloc hlo (.cells zero3 29)
    have h2 := h1.alloc (by rw [World.size_alloc]; omega) (.cells zero3 29)
    have r1 : ((w1.drew.alloc (.cells zero3 29)).alloc (.cells zero3 29)).heap[w1.drew.heap.size]? = some (.cells zero3 29 (0, 0)) := (Below.heap_alloc _ _ _ (by simp)).trans (heap_alloc_new _ _)
    have r2 : ((w1.drew.alloc (.cells zero3 29)).alloc (.cells zero3 29)).heap[w1.drew.heap.size + 1]? = some (.cells zero3 29 (0, 0)) := alloc2_at _ _ _
    refine tree_two ?_ ?_
    ·
      apply tree_run; (exact rfl); rfl; intro K hK; go_simp
      refine hK.out _ _ h1 (fun _ => ?_)
      clear hK K
      try simp only [Act.put, List.setIfInBounds_toArray, List.set_cons_zero, List.set_cons_succ]
      apply tree_run; (exact rfl); rfl; intro K hK; go_simp
      refine hK.out _ _ h2 (fun _ => ?_)
      clear hK K
      try simp only [Act.put, List.setIfInBounds_toArray, List.set_cons_zero, List.set_cons_succ]
      have hG := joinG_store (w := w) (pg := pg) (wd := wd) (x := x) (y := y) (L := L) (R := R) (s := s) h2 r1 r2 (by omega) (by omega) (by omega)
      apply tree_run; (exact rfl); rfl; intro K hK
      refine wp_store_row 29 (.tmp 6) (.tmp 16) rfl (w1.drew.heap.size) (node3 x L) rfl rfl 29 zero3 r1 info29' rfl (sl3_one _ _ _ _ _ _ _ _ _) ?_
      refine hK.out _ _ (below_setRow h2 (by omega) _) (fun _ => ?_)
      clear hK K
      try simp only [Act.put]
      apply tree_run; (exact rfl); rfl; intro K hK
      refine wp_store_row 29 (.tmp 7) (.tmp 18) rfl (w1.drew.heap.size + 1) (node3 y R) rfl rfl 29 zero3 ((setRow_other _ _ _ _ (by omega)).trans r2) info29' rfl (sl3_one _ _ _ _ _ _ _ _ _) ?_
      refine hK.out _ _ hG.bl (fun _ => ?_)
      clear hK K
      try simp only [Act.put]
      exact tree_done ⟨(w1.drew.heap.size, w1.drew.heap.size + 1), rfl, rfl, hG⟩
    ·
      apply tree_run; (exact rfl); rfl; intro K hK; go_simp
      refine hK.out _ _ h1 (fun _ => ?_)
      clear hK K
      try simp only [Act.put, List.setIfInBounds_toArray, List.set_cons_zero, List.set_cons_succ]
      apply tree_run; (exact rfl); rfl; intro K hK; go_simp
      refine hK.out _ _ h2 (fun _ => ?_)
      clear hK K
      try simp only [Act.put, List.setIfInBounds_toArray, List.set_cons_zero, List.set_cons_succ]
      have hG := joinG_store (w := w) (pg := pg) (wd := wd) (x := x) (y := y) (L := L) (R := R) (s := s) h2 r2 r1 (by omega) (by omega) (by omega)
      apply tree_run; (exact rfl); rfl; intro K hK
      refine wp_store_row 29 (.tmp 6) (.tmp 16) rfl (w1.drew.heap.size + 1) (node3 x L) rfl rfl 29 zero3 r2 info29' rfl (sl3_one _ _ _ _ _ _ _ _ _) ?_
      refine hK.out _ _ (below_setRow h2 (by omega) _) (fun _ => ?_)
      clear hK K
      try simp only [Act.put]
      apply tree_run; (exact rfl); rfl; intro K hK
      refine wp_store_row 29 (.tmp 7) (.tmp 18) rfl (w1.drew.heap.size) (node3 y R) rfl rfl 29 zero3 ((setRow_other _ _ _ _ (by omega)).trans r1) info29' rfl (sl3_one _ _ _ _ _ _ _ _ _) ?_
      refine hK.out _ _ hG.bl (fun _ => ?_)
      clear hK K
      try simp only [Act.put]
      exact tree_done ⟨(w1.drew.heap.size + 1, w1.drew.heap.size), rfl, rfl, hG⟩
  case rest =>
  rintro ⟨g1, g2⟩ W hG
  have HG0 := Lib.hid hG
  have HLR := Lib.hid (fun W (h : JoinG w pg wd x L s y R (g1, g2) W) => HL.out.below (join_below h.bl))
  have HRR := Lib.hid (fun W (h : JoinG w pg wd x L s y R (g1, g2) W) => HRD.out.below (join_below h.bl))
  clear hG
  obtain ⟨⟨⟨s0, s1⟩, s2⟩, ⟨m0, m1, m2⟩, ⟨n0, n1, n2⟩, ⟨z0, z1, z2, z3⟩⟩ := HG0.out.facts
  simp only [Act.put, List.setIfInBounds_toArray, List.set_cons_zero, List.set_cons_succ]
  dsimp only at m0 m1 m2 n0 n1 n2 z2 z3
  go_wp2_with (first
    | (go_at_call 62; skip; (refine (leaf_v pg wd _ _ _ _ _ _ L _ (HLR.out _ HG0.out) _ HB1.out).mono ?_; rintro e w2 ⟨rfl, hb2⟩; have HG1 := Lib.hid (HG0.out.next hb2); clear hb2 HG0 HB1; clear s0 s1 s2 m0 m1 m2 n0 n1 n2 z0 z1 z2 z3; obtain ⟨⟨⟨s0, s1⟩, s2⟩, ⟨m0, m1, m2⟩, ⟨n0, n1, n2⟩, ⟨z0, z1, z2, z3⟩⟩ := HG1.out.facts; dsimp only at m0 m1 m2 n0 n1 n2 z2 z3))
    | (go_at_call 62; go_must (refine (leaf_v pg wd _ _ _ _ _ _ R _ (HRR.out _ HG1.out) _ HB2.out).mono ?_; rintro e w3 ⟨rfl, hb3⟩; have HG2 := Lib.hid (HG1.out.next hb3); clear hb3 HG1 HB2; clear s0 s1 s2 m0 m1 m2 n0 n1 n2 z0 z1 z2 z3; obtain ⟨⟨⟨s0, s1⟩, s2⟩, ⟨m0, m1, m2⟩, ⟨n0, n1, n2⟩, ⟨z0, z1, z2, z3⟩⟩ := HG2.out.facts; dsimp only at m0 m1 m2 n0 n1 n2 z2 z3)))
  refine wp_region_grow (by kernel_rfl) (by kernel_rfl) ?_
  repeat (any_goals (first | go_big_quiet_step ((go_at_call 63; exact quiet_below (maxKey_c pg wd _ h0 h1))) | quiet_step ((go_at_call 63; exact quiet_below (maxKey_c pg wd _ h0 h1)))))
  refine wpQuiet_nil ?_
  intro w3 hb
  have HG3 := Lib.hid (HG2.out.next hb)
  clear hb HG2
  clear s0 s1 s2 m0 m1 m2 n0 n1 n2 z0 z1 z2 z3; obtain ⟨⟨⟨s0, s1⟩, s2⟩, ⟨m0, m1, m2⟩, ⟨n0, n1, n2⟩, ⟨z0, z1, z2, z3⟩⟩ := HG3.out.facts; dsimp only at m0 m1 m2 n0 n1 n2 z2 z3
  go_wp2
  have hm := HM.out
  obtain ⟨ab, ao, ax, ak, aj⟩ := pairs_at (HLR.out _ HG3.out).pairs (show m < L.pairs.length by omega)
  clear aj
  rw [← keyAt_get (show m < L.pairs.length by omega), HLK.out] at ak
  have hm0 : ((m : Int) + 1 == 0) = false := by rw [beq_eq_false_iff_ne]; omega
  have hmb : m ≤ 140737488355328 := by omega
  have ab3 : ab < w3.heap.size := World.block_lt_of_cell? _ _ ak
  rw [ax, hm] at m0; clear hm
  refine wp_region_grow (by kernel_rfl) (by kernel_rfl) ?_
  repeat (any_goals (first | go_big_quiet_step (fail) | quiet_step (fail)))
  refine wpQuiet_nil ?_
  intro w4 hb
  have HG4 := Lib.hid (HG3.out.next hb)
  clear hb HG3
  clear s0 s1 s2 m0 m1 m2 n0 n1 n2 z0 z1 z2 z3; obtain ⟨⟨⟨s0, s1⟩, s2⟩, ⟨m0, m1, m2⟩, ⟨n0, n1, n2⟩, ⟨z0, z1, z2, z3⟩⟩ := HG4.out.facts; dsimp only at m0 m1 m2 n0 n1 n2 z2 z3
  go_wp2
  clear ak ab3 ax
  rw [HNN.out] at n0
  refine wp_region_grow (by kernel_rfl) (by kernel_rfl) ?_
  repeat (any_goals (first | go_big_quiet_step (fail) | quiet_step (fail)))
  refine wpQuiet_nil ?_
  intro w5 hb
  have HG5 := Lib.hid (HG4.out.next hb)
  clear hb HG4
  clear s0 s1 s2 m0 m1 m2 n0 n1 n2 z0 z1 z2 z3; obtain ⟨⟨⟨s0, s1⟩, s2⟩, ⟨m0, m1, m2⟩, ⟨n0, n1, n2⟩, ⟨z0, z1, z2, z3⟩⟩ := HG5.out.facts; dsimp only at m0 m1 m2 n0 n1 n2 z2 z3
  go_wp2_with (first
    | (go_at_call 65; go_must (refine (putP_at x.A0 y.A0 x.c0 y.c0 L.pairs R.pairs _ (HLR.out _ HG5.out).pairs (HRR.out _ HG5.out).pairs HL.out.hcp HRM.out L.pairs.length 0 _ _ rfl rfl (by omega) LR (by simpa using HLRR.out)).mono ?_; rintro e w6 ⟨⟨A, c, rfl, hown⟩, hb6⟩; have hB6 := join_next HG5.out.bl hb6; have hg := join_row hB6; have HO := Lib.hid hown; clear hown))
    | (refine wpList_store_row rfl 29 (.tmp 4) (.tmp 86) rfl (w.heap.size + 1 + 1) #[.slice A LR.length c, .slice none 0 0, .slice none 0 0] rfl rfl 29 _ hg info29' rfl (sl3_one _ _ _ _ _ _ _ _ _) ?_))
  refine bodyPost_ret (results_ct rfl _ _ (w.heap.size + 1 + 1) 29 #[.slice A LR.length c, .slice none 0 0, .slice none 0 0] (0, 0) _ rfl (setRow_block _ _ _ _ _ _ hg) Try.underlying29 rfl info29') rfl ?_
  have hlen : LR.length = L.pairs.length + R.pairs.length := by rw [← HLRR.out, List.length_append]
  have hsz5 := join_size HG5.out.bl
  have hO := OwN.leaf HO.out (Nat.le_refl _) (by rw [hlen]; exact HRM.out) (fun q hq => by rw [← HLRR.out] at hq; exact (List.mem_append.1 hq).elim (HL.out.pk q) (HRD.out.pk q))
  exact join_fin_leaf w _ pg wd L R s HE.out HK.out LR HLRR.out A c (below_setRow (join_below hB6) (by omega) _) ((hO.setRow' _ _ (.inl (by omega))).wide (by omega) (by simp [World.setRow]))


theorem join_leaf_g4 (pg wd : Int) (x : VH) (L : NodeD) (s : ByteArray) (y : VH) (R : NodeD) (w : World) (hL : RdN w x.A0 x.c0 x.A1 x.c1 x.A2 x.c2 L) (hR : RdN w y.A0 y.c0 y.A1 y.c1 y.A2 y.c2 R) (hsm : s.size ≤ 140737488355328)
    (hr : right pg wd = true) (h1 : leafB pg wd L = true) (h2 : leafB pg wd R = true) (k1 : (s.toList == []) = false) (k2 : decide ((s.size : Int) ≤ pg / 16) = true) (m : Nat) (hm : L.pairs.length = m + 1) (lk : ByteArray) (hlk : keyAt L.pairs m = lk) (ho : Op.bytesLess lk.toList s.toList = true) (n : Nat) (hn : R.pairs.length = n + 1) (rk : ByteArray) (hrk : keyAt R.pairs 0 = rk) (hq : Op.bytesLess rk.toList s.toList = false) (hE : joinE pg wd L s R = 0) (hroom : (L.pairs.length + R.pairs.length) * 32 ≤ 140737488355328) :
    Calls Try.prog 89 #[vF pg wd, vH x L s y R] w fun e w' => JoinPost pg wd L s R w e w' := by
  obtain ⟨⟨h0', h1'⟩, _, _⟩ := right_spec hr
  have h0 : 0 ≤ pg := by omega
  have HRI := Lib.hid hr
  have HL := Lib.hid hL
  have HRD := Lib.hid hR
  have HB1 := Lib.hid h1
  have HB2 := Lib.hid h2
  have hlp := hL.hp
  have hrp := hR.hp
  have HSM : Hid (s.size ≤ 140737488355328) := Lib.hid hsm
  clear hr h1 h2 hL hR h0'
  have h1 := h1'
  have HE := Lib.hid hE
  clear hE
  have HK : Hid (L.kids.length = 0) := Lib.hid (of_decide_eq_true HB1.out).1
  have HRM := Lib.hid hroom
  clear hroom
  obtain ⟨LR, hLR⟩ : ∃ LR, L.pairs ++ R.pairs = LR := ⟨_, rfl⟩
  have HLRR := Lib.hid hLR
  clear hLR
  have HM := Lib.hid hm
  have HLK := Lib.hid hlk
  clear hm hlk
  have HNN := Lib.hid hn
  have HRK := Lib.hid hrk
  clear hn hrk
  go_enter Try.func89, Try.ntmps89
  go_wp2_with (first
    | (go_at_call 61; refine (frame_v pg wd _ _ HRI.out).mono ?_; rintro e w1 ⟨rfl, hb⟩; have hB1 := join_first hb; clear hb))
  refine region_mid (α := Nat × Nat) (fun X a => ((((((a.put (some 15) (.pointer (some ⟨w.heap.size + 1, 0, none⟩))).put (some 16) (vN x.A0 x.c0 x.A1 x.c1 x.A2 x.c2 L)).put (some 17) (.pointer (some ⟨w.heap.size + 1, 4, none⟩))).put (some 18) (vN y.A0 y.c0 y.A1 y.c1 y.A2 y.c2 R)).put (some 6) (.pointer (some ⟨X.1, 0, none⟩))).put (some 7) (.pointer (some ⟨X.2, 0, none⟩)))) (fun X W => JoinG w pg wd x L s y R X W) ?region ?rest
  case region =>
    have HF := Lib.hid (fun W (h : Below (w.heap.size + 1 + 1 + 1) (joinW w pg wd x L s y R) W) => join_boxes h)
    refine wp_region_tree (S := Below (w.heap.size + 1 + 1 + 1) (joinW w pg wd x L s y R)) (.take 0 (.take 1 (.take 2 (.take 3 (.two 4 5 (.run 5 (.run 6 (.run 7 (.done)))) (.run 4 (.run 6 (.run 7 (.done)))))))))
      (by kernel_rfl) (by kernel_rfl) (by kernel_rfl) (by rintro c a d v W ⟨X, h, _⟩; cases h) hB1.drew ?_
    repeat (apply tree_take; (exact rfl); rfl; (intro W hW; obtain ⟨⟨q0, q1⟩, q2, q3, q4, q5, q6, q7, q8⟩ := HF.out W hW; go_simp; (try with_reducible rfl)); simp only [Act.put, List.setIfInBounds_toArray, List.set_cons_zero, List.set_cons_succ])
    have hlo : w.heap.size + 1 + 1 + 1 ≤ w1.drew.heap.size := join_size hB1.drew
    have h1 := hB1.drew.alloc hlo (.cells zero3 29)
    have h2 := h1.alloc (by rw [World.size_alloc]; omega) (.cells zero3 29)
    have r1 : ((w1.drew.alloc (.cells zero3 29)).alloc (.cells zero3 29)).heap[w1.drew.heap.size]? = some (.cells zero3 29 (0, 0)) := (Below.heap_alloc _ _ _ (by simp)).trans (heap_alloc_new _ _)
    have r2 : ((w1.drew.alloc (.cells zero3 29)).alloc (.cells zero3 29)).heap[w1.drew.heap.size + 1]? = some (.cells zero3 29 (0, 0)) := alloc2_at _ _ _
    refine tree_two ?_ ?_
    ·
      apply tree_run; (exact rfl); rfl; intro K hK; go_simp
      refine hK.out _ _ h1 (fun _ => ?_)
      clear hK K
      try simp only [Act.put, List.setIfInBounds_toArray, List.set_cons_zero, List.set_cons_succ]
      apply tree_run; (exact rfl); rfl; intro K hK; go_simp
      refine hK.out _ _ h2 (fun _ => ?_)
      clear hK K
      try simp only [Act.put, List.setIfInBounds_toArray, List.set_cons_zero, List.set_cons_succ]
      have hG := joinG_store (w := w) (pg := pg) (wd := wd) (x := x) (y := y) (L := L) (R := R) (s := s) h2 r1 r2 (by omega) (by omega) (by omega)
      apply tree_run; (exact rfl); rfl; intro K hK
      refine wp_store_row 29 (.tmp 6) (.tmp 16) rfl (w1.drew.heap.size) (node3 x L) rfl rfl 29 zero3 r1 info29' rfl (sl3_one _ _ _ _ _ _ _ _ _) ?_
      refine hK.out _ _ (below_setRow h2 (by omega) _) (fun _ => ?_)
      clear hK K
      try simp only [Act.put]
      apply tree_run; (exact rfl); rfl; intro K hK
      refine wp_store_row 29 (.tmp 7) (.tmp 18) rfl (w1.drew.heap.size + 1) (node3 y R) rfl rfl 29 zero3 ((setRow_other _ _ _ _ (by omega)).trans r2) info29' rfl (sl3_one _ _ _ _ _ _ _ _ _) ?_
      refine hK.out _ _ hG.bl (fun _ => ?_)
      clear hK K
      try simp only [Act.put]
      exact tree_done ⟨(w1.drew.heap.size, w1.drew.heap.size + 1), rfl, rfl, hG⟩
    ·
      apply tree_run; (exact rfl); rfl; intro K hK; go_simp
      refine hK.out _ _ h1 (fun _ => ?_)
      clear hK K
      try simp only [Act.put, List.setIfInBounds_toArray, List.set_cons_zero, List.set_cons_succ]
      apply tree_run; (exact rfl); rfl; intro K hK; go_simp
      refine hK.out _ _ h2 (fun _ => ?_)
      clear hK K
      try simp only [Act.put, List.setIfInBounds_toArray, List.set_cons_zero, List.set_cons_succ]
      have hG := joinG_store (w := w) (pg := pg) (wd := wd) (x := x) (y := y) (L := L) (R := R) (s := s) h2 r2 r1 (by omega) (by omega) (by omega)
      apply tree_run; (exact rfl); rfl; intro K hK
      refine wp_store_row 29 (.tmp 6) (.tmp 16) rfl (w1.drew.heap.size + 1) (node3 x L) rfl rfl 29 zero3 r2 info29' rfl (sl3_one _ _ _ _ _ _ _ _ _) ?_
      refine hK.out _ _ (below_setRow h2 (by omega) _) (fun _ => ?_)
      clear hK K
      try simp only [Act.put]
      apply tree_run; (exact rfl); rfl; intro K hK
      refine wp_store_row 29 (.tmp 7) (.tmp 18) rfl (w1.drew.heap.size) (node3 y R) rfl rfl 29 zero3 ((setRow_other _ _ _ _ (by omega)).trans r1) info29' rfl (sl3_one _ _ _ _ _ _ _ _ _) ?_
      refine hK.out _ _ hG.bl (fun _ => ?_)
      clear hK K
      try simp only [Act.put]
      exact tree_done ⟨(w1.drew.heap.size + 1, w1.drew.heap.size), rfl, rfl, hG⟩
  case rest =>
  rintro ⟨g1, g2⟩ W hG
  have HG0 := Lib.hid hG
  have HLR := Lib.hid (fun W (h : JoinG w pg wd x L s y R (g1, g2) W) => HL.out.below (join_below h.bl))
  have HRR := Lib.hid (fun W (h : JoinG w pg wd x L s y R (g1, g2) W) => HRD.out.below (join_below h.bl))
  clear hG
  obtain ⟨⟨⟨s0, s1⟩, s2⟩, ⟨m0, m1, m2⟩, ⟨n0, n1, n2⟩, ⟨z0, z1, z2, z3⟩⟩ := HG0.out.facts
  simp only [Act.put, List.setIfInBounds_toArray, List.set_cons_zero, List.set_cons_succ]
  dsimp only at m0 m1 m2 n0 n1 n2 z2 z3
  go_wp2_with (first
    | (go_at_call 62; skip; (refine (leaf_v pg wd _ _ _ _ _ _ L _ (HLR.out _ HG0.out) _ HB1.out).mono ?_; rintro e w2 ⟨rfl, hb2⟩; have HG1 := Lib.hid (HG0.out.next hb2); clear hb2 HG0 HB1; clear s0 s1 s2 m0 m1 m2 n0 n1 n2 z0 z1 z2 z3; obtain ⟨⟨⟨s0, s1⟩, s2⟩, ⟨m0, m1, m2⟩, ⟨n0, n1, n2⟩, ⟨z0, z1, z2, z3⟩⟩ := HG1.out.facts; dsimp only at m0 m1 m2 n0 n1 n2 z2 z3))
    | (go_at_call 62; go_must (refine (leaf_v pg wd _ _ _ _ _ _ R _ (HRR.out _ HG1.out) _ HB2.out).mono ?_; rintro e w3 ⟨rfl, hb3⟩; have HG2 := Lib.hid (HG1.out.next hb3); clear hb3 HG1 HB2; clear s0 s1 s2 m0 m1 m2 n0 n1 n2 z0 z1 z2 z3; obtain ⟨⟨⟨s0, s1⟩, s2⟩, ⟨m0, m1, m2⟩, ⟨n0, n1, n2⟩, ⟨z0, z1, z2, z3⟩⟩ := HG2.out.facts; dsimp only at m0 m1 m2 n0 n1 n2 z2 z3)))
  refine wp_region_grow (by kernel_rfl) (by kernel_rfl) ?_
  repeat (any_goals (first | go_big_quiet_step ((go_at_call 63; exact quiet_below (maxKey_c pg wd _ h0 h1))) | quiet_step ((go_at_call 63; exact quiet_below (maxKey_c pg wd _ h0 h1)))))
  refine wpQuiet_nil ?_
  intro w3 hb
  have HG3 := Lib.hid (HG2.out.next hb)
  clear hb HG2
  clear s0 s1 s2 m0 m1 m2 n0 n1 n2 z0 z1 z2 z3; obtain ⟨⟨⟨s0, s1⟩, s2⟩, ⟨m0, m1, m2⟩, ⟨n0, n1, n2⟩, ⟨z0, z1, z2, z3⟩⟩ := HG3.out.facts; dsimp only at m0 m1 m2 n0 n1 n2 z2 z3
  go_wp2
  have hm := HM.out
  obtain ⟨ab, ao, ax, ak, aj⟩ := pairs_at (HLR.out _ HG3.out).pairs (show m < L.pairs.length by omega)
  clear aj
  rw [← keyAt_get (show m < L.pairs.length by omega), HLK.out] at ak
  have hm0 : ((m : Int) + 1 == 0) = false := by rw [beq_eq_false_iff_ne]; omega
  have hmb : m ≤ 140737488355328 := by omega
  have ab3 : ab < w3.heap.size := World.block_lt_of_cell? _ _ ak
  rw [ax, hm] at m0; clear hm
  refine wp_region_grow (by kernel_rfl) (by kernel_rfl) ?_
  repeat (any_goals (first | go_big_quiet_step (fail) | quiet_step (fail)))
  refine wpQuiet_nil ?_
  intro w4 hb
  have HG4 := Lib.hid (HG3.out.next hb)
  clear hb HG3
  clear s0 s1 s2 m0 m1 m2 n0 n1 n2 z0 z1 z2 z3; obtain ⟨⟨⟨s0, s1⟩, s2⟩, ⟨m0, m1, m2⟩, ⟨n0, n1, n2⟩, ⟨z0, z1, z2, z3⟩⟩ := HG4.out.facts; dsimp only at m0 m1 m2 n0 n1 n2 z2 z3
  go_wp2
  clear ak ab3 ax
  have hn := HNN.out
  obtain ⟨bb, bo, bx, bk, bj⟩ := pairs_at (HRR.out _ HG4.out).pairs (show 0 < R.pairs.length by omega)
  clear bj
  rw [← keyAt_get (show 0 < R.pairs.length by omega), HRK.out] at bk
  have bb4 : bb < w4.heap.size := World.block_lt_of_cell? _ _ bk
  simp only [Nat.zero_mul, Nat.add_zero] at bk
  rw [bx, hn] at n0; clear hn
  refine wp_region_grow (by kernel_rfl) (by kernel_rfl) ?_
  repeat (any_goals (first | go_big_quiet_step (fail) | quiet_step (fail)))
  refine wpQuiet_nil ?_
  intro w5 hb
  have HG5 := Lib.hid (HG4.out.next hb)
  clear hb HG4
  clear s0 s1 s2 m0 m1 m2 n0 n1 n2 z0 z1 z2 z3; obtain ⟨⟨⟨s0, s1⟩, s2⟩, ⟨m0, m1, m2⟩, ⟨n0, n1, n2⟩, ⟨z0, z1, z2, z3⟩⟩ := HG5.out.facts; dsimp only at m0 m1 m2 n0 n1 n2 z2 z3
  clear bk bb4 bx
  go_wp2_with (first
    | (go_at_call 65; go_must (refine (putP_at x.A0 y.A0 x.c0 y.c0 L.pairs R.pairs _ (HLR.out _ HG5.out).pairs (HRR.out _ HG5.out).pairs HL.out.hcp HRM.out L.pairs.length 0 _ _ rfl rfl (by omega) LR (by simpa using HLRR.out)).mono ?_; rintro e w6 ⟨⟨A, c, rfl, hown⟩, hb6⟩; have hB6 := join_next HG5.out.bl hb6; have hg := join_row hB6; have HO := Lib.hid hown; clear hown))
    | (refine wpList_store_row rfl 29 (.tmp 4) (.tmp 86) rfl (w.heap.size + 1 + 1) #[.slice A LR.length c, .slice none 0 0, .slice none 0 0] rfl rfl 29 _ hg info29' rfl (sl3_one _ _ _ _ _ _ _ _ _) ?_))
  refine bodyPost_ret (results_ct rfl _ _ (w.heap.size + 1 + 1) 29 #[.slice A LR.length c, .slice none 0 0, .slice none 0 0] (0, 0) _ rfl (setRow_block _ _ _ _ _ _ hg) Try.underlying29 rfl info29') rfl ?_
  have hlen : LR.length = L.pairs.length + R.pairs.length := by rw [← HLRR.out, List.length_append]
  have hsz5 := join_size HG5.out.bl
  have hO := OwN.leaf HO.out (Nat.le_refl _) (by rw [hlen]; exact HRM.out) (fun q hq => by rw [← HLRR.out] at hq; exact (List.mem_append.1 hq).elim (HL.out.pk q) (HRD.out.pk q))
  exact join_fin_leaf w _ pg wd L R s HE.out HK.out LR HLRR.out A c (below_setRow (join_below hB6) (by omega) _) ((hO.setRow' _ _ (.inl (by omega))).wide (by omega) (by simp [World.setRow]))


end Go.Proofs.Ytajkoeodabmgeaa
end

section
namespace Go.Proofs.Ytajkoeodabmgeaa
open Go.RowKit
set_option maxHeartbeats 4000000
set_option maxRecDepth 100000
attribute [local go_sem] grow_cell grow_frozen grow_size

theorem join_branch_b1 (pg wd : Int) (x : VH) (L : NodeD) (s : ByteArray) (y : VH) (R : NodeD) (w : World) (hL : RdN w x.A0 x.c0 x.A1 x.c1 x.A2 x.c2 L) (hR : RdN w y.A0 y.c0 y.A1 y.c1 y.A2 y.c2 R) (hsm : s.size ≤ 140737488355328)
    (hr : right pg wd = true) (h1 : branchB pg wd L = true) (h2 : branchB pg wd R = true) (hnl : leafB pg wd L = false) (k1 : (s.toList == []) = true) (hE : joinE pg wd L s R = 81) :
    Calls Try.prog 89 #[vF pg wd, vH x L s y R] w fun e w' => JoinPost pg wd L s R w e w' := by
  obtain ⟨⟨h0', h1'⟩, _, _⟩ := right_spec hr
  have h0 : 0 ≤ pg := by omega
  have HRI := Lib.hid hr
  have HL := Lib.hid hL
  have HRD := Lib.hid hR
  have HB1 := Lib.hid h1
  have HB2 := Lib.hid h2
  have hlp := hL.hs
  have hrp := hR.hs
  have HSM : Hid (s.size ≤ 140737488355328) := Lib.hid hsm
  have HNL := Lib.hid hnl
  clear hnl hr h1 h2 hL hR h0'
  have h1 := h1'
  have HE := Lib.hid hE
  clear hE
  go_enter Try.func89, Try.ntmps89
  go_wp2_with (first
    | (go_at_call 61; refine (frame_v pg wd _ _ HRI.out).mono ?_; rintro e w1 ⟨rfl, hb⟩; have hB1 := join_first hb; clear hb))
  refine region_mid (α := Nat × Nat) (fun X a => ((((((a.put (some 15) (.pointer (some ⟨w.heap.size + 1, 0, none⟩))).put (some 16) (vN x.A0 x.c0 x.A1 x.c1 x.A2 x.c2 L)).put (some 17) (.pointer (some ⟨w.heap.size + 1, 4, none⟩))).put (some 18) (vN y.A0 y.c0 y.A1 y.c1 y.A2 y.c2 R)).put (some 6) (.pointer (some ⟨X.1, 0, none⟩))).put (some 7) (.pointer (some ⟨X.2, 0, none⟩)))) (fun X W => JoinG w pg wd x L s y R X W) ?region ?rest
  case region =>
    have HF := Lib.hid (fun W (h : Below (w.heap.size + 1 + 1 + 1) (joinW w pg wd x L s y R) W) => join_boxes h)
    refine wp_region_tree (S := Below (w.heap.size + 1 + 1 + 1) (joinW w pg wd x L s y R)) (.take 0 (.take 1 (.take 2 (.take 3 (.two 4 5 (.run 5 (.run 6 (.run 7 (.done)))) (.run 4 (.run 6 (.run 7 (.done)))))))))
      (by kernel_rfl) (by kernel_rfl) (by kernel_rfl) (by rintro c a d v W ⟨X, h, _⟩; cases h) hB1.drew ?_
    repeat (apply tree_take; (exact rfl); rfl; (intro W hW; obtain ⟨⟨q0, q1⟩, q2, q3, q4, q5, q6, q7, q8⟩ := HF.out W hW; go_simp; (try with_reducible rfl)); simp only [Act.put, List.setIfInBounds_toArray, List.set_cons_zero, List.set_cons_succ])
    have hlo : w.heap.size + 1 + 1 + 1 ≤ w1.drew.heap.size := join_size hB1.drew
    have h1 := hB1.drew.alloc hlo (.cells zero3 29)
    have h2 := h1.alloc (by rw [World.size_alloc]; omega) (.cells zero3 29)
    have r1 : ((w1.drew.alloc (.cells zero3 29)).alloc (.cells zero3 29)).heap[w1.drew.heap.size]? = some (.cells zero3 29 (0, 0)) := (Below.heap_alloc _ _ _ (by simp)).trans (heap_alloc_new _ _)
    have r2 : ((w1.drew.alloc (.cells zero3 29)).alloc (.cells zero3 29)).heap[w1.drew.heap.size + 1]? = some (.cells zero3 29 (0, 0)) := alloc2_at _ _ _
    refine tree_two ?_ ?_
    ·
      apply tree_run; (exact rfl); rfl; intro K hK; go_simp
      refine hK.out _ _ h1 (fun _ => ?_)
      clear hK K
      try simp only [Act.put, List.setIfInBounds_toArray, List.set_cons_zero, List.set_cons_succ]
      apply tree_run; (exact rfl); rfl; intro K hK; go_simp
      refine hK.out _ _ h2 (fun _ => ?_)
      clear hK K
      try simp only [Act.put, List.setIfInBounds_toArray, List.set_cons_zero, List.set_cons_succ]
      have hG := joinG_store (w := w) (pg := pg) (wd := wd) (x := x) (y := y) (L := L) (R := R) (s := s) h2 r1 r2 (by omega) (by omega) (by omega)
      apply tree_run; (exact rfl); rfl; intro K hK
      refine wp_store_row 29 (.tmp 6) (.tmp 16) rfl (w1.drew.heap.size) (node3 x L) rfl rfl 29 zero3 r1 info29' rfl (sl3_one _ _ _ _ _ _ _ _ _) ?_
      refine hK.out _ _ (below_setRow h2 (by omega) _) (fun _ => ?_)
      clear hK K
      try simp only [Act.put]
      apply tree_run; (exact rfl); rfl; intro K hK
      refine wp_store_row 29 (.tmp 7) (.tmp 18) rfl (w1.drew.heap.size + 1) (node3 y R) rfl rfl 29 zero3 ((setRow_other _ _ _ _ (by omega)).trans r2) info29' rfl (sl3_one _ _ _ _ _ _ _ _ _) ?_
      refine hK.out _ _ hG.bl (fun _ => ?_)
      clear hK K
      try simp only [Act.put]
      exact tree_done ⟨(w1.drew.heap.size, w1.drew.heap.size + 1), rfl, rfl, hG⟩
    ·
      apply tree_run; (exact rfl); rfl; intro K hK; go_simp
      refine hK.out _ _ h1 (fun _ => ?_)
      clear hK K
      try simp only [Act.put, List.setIfInBounds_toArray, List.set_cons_zero, List.set_cons_succ]
      apply tree_run; (exact rfl); rfl; intro K hK; go_simp
      refine hK.out _ _ h2 (fun _ => ?_)
      clear hK K
      try simp only [Act.put, List.setIfInBounds_toArray, List.set_cons_zero, List.set_cons_succ]
      have hG := joinG_store (w := w) (pg := pg) (wd := wd) (x := x) (y := y) (L := L) (R := R) (s := s) h2 r2 r1 (by omega) (by omega) (by omega)
      apply tree_run; (exact rfl); rfl; intro K hK
      refine wp_store_row 29 (.tmp 6) (.tmp 16) rfl (w1.drew.heap.size + 1) (node3 x L) rfl rfl 29 zero3 r2 info29' rfl (sl3_one _ _ _ _ _ _ _ _ _) ?_
      refine hK.out _ _ (below_setRow h2 (by omega) _) (fun _ => ?_)
      clear hK K
      try simp only [Act.put]
      apply tree_run; (exact rfl); rfl; intro K hK
      refine wp_store_row 29 (.tmp 7) (.tmp 18) rfl (w1.drew.heap.size) (node3 y R) rfl rfl 29 zero3 ((setRow_other _ _ _ _ (by omega)).trans r1) info29' rfl (sl3_one _ _ _ _ _ _ _ _ _) ?_
      refine hK.out _ _ hG.bl (fun _ => ?_)
      clear hK K
      try simp only [Act.put]
      exact tree_done ⟨(w1.drew.heap.size + 1, w1.drew.heap.size), rfl, rfl, hG⟩
  case rest =>
  rintro ⟨g1, g2⟩ W hG
  have HG0 := Lib.hid hG
  have HLR := Lib.hid (fun W (h : JoinG w pg wd x L s y R (g1, g2) W) => HL.out.below (join_below h.bl))
  have HRR := Lib.hid (fun W (h : JoinG w pg wd x L s y R (g1, g2) W) => HRD.out.below (join_below h.bl))
  clear hG
  obtain ⟨⟨⟨s0, s1⟩, s2⟩, ⟨m0, m1, m2⟩, ⟨n0, n1, n2⟩, ⟨z0, z1, z2, z3⟩⟩ := HG0.out.facts
  simp only [Act.put, List.setIfInBounds_toArray, List.set_cons_zero, List.set_cons_succ]
  dsimp only at m0 m1 m2 n0 n1 n2 z2 z3
  go_wp2_with (first
    | (go_at_call 62; go_must (refine (leaf_v pg wd _ _ _ _ _ _ L _ (HLR.out _ HG0.out) _ HNL.out).mono ?_; rintro e w2 ⟨rfl, hb2⟩; have HGa := Lib.hid (HG0.out.next hb2); clear hb2 HG0 HNL; clear s0 s1 s2 m0 m1 m2 n0 n1 n2 z0 z1 z2 z3; obtain ⟨⟨⟨s0, s1⟩, s2⟩, ⟨m0, m1, m2⟩, ⟨n0, n1, n2⟩, ⟨z0, z1, z2, z3⟩⟩ := HGa.out.facts; dsimp only at m0 m1 m2 n0 n1 n2 z2 z3))
    | (go_at_call 84; skip; (refine (branch_v pg wd _ _ _ _ _ _ L _ (HLR.out _ HGa.out) _ HB1.out).mono ?_; rintro e w2 ⟨rfl, hb2⟩; have HG1 := Lib.hid (HGa.out.next hb2); clear hb2 HGa HB1; clear s0 s1 s2 m0 m1 m2 n0 n1 n2 z0 z1 z2 z3; obtain ⟨⟨⟨s0, s1⟩, s2⟩, ⟨m0, m1, m2⟩, ⟨n0, n1, n2⟩, ⟨z0, z1, z2, z3⟩⟩ := HG1.out.facts; dsimp only at m0 m1 m2 n0 n1 n2 z2 z3))
    | (go_at_call 84; go_must (refine (branch_v pg wd _ _ _ _ _ _ R _ (HRR.out _ HG1.out) _ HB2.out).mono ?_; rintro e w3 ⟨rfl, hb3⟩; have HG2 := Lib.hid (HG1.out.next hb3); clear hb3 HG1 HB2; clear s0 s1 s2 m0 m1 m2 n0 n1 n2 z0 z1 z2 z3; obtain ⟨⟨⟨s0, s1⟩, s2⟩, ⟨m0, m1, m2⟩, ⟨n0, n1, n2⟩, ⟨z0, z1, z2, z3⟩⟩ := HG2.out.facts; dsimp only at m0 m1 m2 n0 n1 n2 z2 z3)))
  refine wp_region_grow (by kernel_rfl) (by kernel_rfl) ?_
  repeat (any_goals (first | go_big_quiet_step ((go_at_call 63; exact quiet_below (maxKey_c pg wd _ h0 h1))) | quiet_step ((go_at_call 63; exact quiet_below (maxKey_c pg wd _ h0 h1)))))
  refine wpQuiet_nil ?_
  intro w3 hb
  have HG3 := Lib.hid (HG2.out.next hb)
  clear hb HG2
  clear s0 s1 s2 m0 m1 m2 n0 n1 n2 z0 z1 z2 z3; obtain ⟨⟨⟨s0, s1⟩, s2⟩, ⟨m0, m1, m2⟩, ⟨n0, n1, n2⟩, ⟨z0, z1, z2, z3⟩⟩ := HG3.out.facts; dsimp only at m0 m1 m2 n0 n1 n2 z2 z3
  go_wp2
  refine wp_region_grow (by kernel_rfl) (by kernel_rfl) ?_
  repeat (any_goals (first | go_big_quiet_step (fail) | quiet_step (fail)))
  refine wpQuiet_nil ?_
  intro w4 hb
  have HG4 := Lib.hid (HG3.out.next hb)
  clear hb HG3
  clear s0 s1 s2 m0 m1 m2 n0 n1 n2 z0 z1 z2 z3; obtain ⟨⟨⟨s0, s1⟩, s2⟩, ⟨m0, m1, m2⟩, ⟨n0, n1, n2⟩, ⟨z0, z1, z2, z3⟩⟩ := HG4.out.facts; dsimp only at m0 m1 m2 n0 n1 n2 z2 z3
  go_wp2
  refine wp_region_grow (by kernel_rfl) (by kernel_rfl) ?_
  repeat (any_goals (first | go_big_quiet_step (fail) | quiet_step (fail)))
  refine wpQuiet_nil ?_
  intro w5 hb
  have HG5 := Lib.hid (HG4.out.next hb)
  clear hb HG4
  clear s0 s1 s2 m0 m1 m2 n0 n1 n2 z0 z1 z2 z3; obtain ⟨⟨⟨s0, s1⟩, s2⟩, ⟨m0, m1, m2⟩, ⟨n0, n1, n2⟩, ⟨z0, z1, z2, z3⟩⟩ := HG5.out.facts; dsimp only at m0 m1 m2 n0 n1 n2 z2 z3
  have hg := join_row HG5.out.bl
  go_wp2_with (first
    | (refine wpList_store_row rfl 29 (.tmp 4) (.tmp 143) rfl (w.heap.size + 1 + 1) zero3 rfl rfl 29 _ hg info29' rfl (sl3_one _ _ _ _ _ _ _ _ _) ?_))
  refine bodyPost_ret (results_ct rfl _ _ (w.heap.size + 1 + 1) 29 zero3 (0, 0) _ rfl (setRow_block _ _ _ _ _ _ hg) Try.underlying29 rfl info29') rfl ?_
  exact join_err w _ pg wd L s R 81 HE.out (by decide) (below_setRow (join_below HG5.out.bl) (by omega) _)


theorem join_branch_b2 (pg wd : Int) (x : VH) (L : NodeD) (s : ByteArray) (y : VH) (R : NodeD) (w : World) (hL : RdN w x.A0 x.c0 x.A1 x.c1 x.A2 x.c2 L) (hR : RdN w y.A0 y.c0 y.A1 y.c1 y.A2 y.c2 R) (hsm : s.size ≤ 140737488355328)
    (hr : right pg wd = true) (h1 : branchB pg wd L = true) (h2 : branchB pg wd R = true) (hnl : leafB pg wd L = false) (k1 : (s.toList == []) = false) (k2 : decide ((s.size : Int) ≤ pg / 16) = false) (hE : joinE pg wd L s R = 81) :
    Calls Try.prog 89 #[vF pg wd, vH x L s y R] w fun e w' => JoinPost pg wd L s R w e w' := by
  obtain ⟨⟨h0', h1'⟩, _, _⟩ := right_spec hr
  have h0 : 0 ≤ pg := by omega
  have HRI := Lib.hid hr
  have HL := Lib.hid hL
  have HRD := Lib.hid hR
  have HB1 := Lib.hid h1
  have HB2 := Lib.hid h2
  have hlp := hL.hs
  have hrp := hR.hs
  have HSM : Hid (s.size ≤ 140737488355328) := Lib.hid hsm
  have HNL := Lib.hid hnl
  clear hnl hr h1 h2 hL hR h0'
  have h1 := h1'
  have HE := Lib.hid hE
  clear hE
  go_enter Try.func89, Try.ntmps89
  go_wp2_with (first
    | (go_at_call 61; refine (frame_v pg wd _ _ HRI.out).mono ?_; rintro e w1 ⟨rfl, hb⟩; have hB1 := join_first hb; clear hb))
  refine region_mid (α := Nat × Nat) (fun X a => ((((((a.put (some 15) (.pointer (some ⟨w.heap.size + 1, 0, none⟩))).put (some 16) (vN x.A0 x.c0 x.A1 x.c1 x.A2 x.c2 L)).put (some 17) (.pointer (some ⟨w.heap.size + 1, 4, none⟩))).put (some 18) (vN y.A0 y.c0 y.A1 y.c1 y.A2 y.c2 R)).put (some 6) (.pointer (some ⟨X.1, 0, none⟩))).put (some 7) (.pointer (some ⟨X.2, 0, none⟩)))) (fun X W => JoinG w pg wd x L s y R X W) ?region ?rest
  case region =>
    have HF := Lib.hid (fun W (h : Below (w.heap.size + 1 + 1 + 1) (joinW w pg wd x L s y R) W) => join_boxes h)
    refine wp_region_tree (S := Below (w.heap.size + 1 + 1 + 1) (joinW w pg wd x L s y R)) (.take 0 (.take 1 (.take 2 (.take 3 (.two 4 5 (.run 5 (.run 6 (.run 7 (.done)))) (.run 4 (.run 6 (.run 7 (.done)))))))))
      (by kernel_rfl) (by kernel_rfl) (by kernel_rfl) (by rintro c a d v W ⟨X, h, _⟩; cases h) hB1.drew ?_
    repeat (apply tree_take; (exact rfl); rfl; (intro W hW; obtain ⟨⟨q0, q1⟩, q2, q3, q4, q5, q6, q7, q8⟩ := HF.out W hW; go_simp; (try with_reducible rfl)); simp only [Act.put, List.setIfInBounds_toArray, List.set_cons_zero, List.set_cons_succ])
    have hlo : w.heap.size + 1 + 1 + 1 ≤ w1.drew.heap.size := join_size hB1.drew
    have h1 := hB1.drew.alloc hlo (.cells zero3 29)
    have h2 := h1.alloc (by rw [World.size_alloc]; omega) (.cells zero3 29)
    have r1 : ((w1.drew.alloc (.cells zero3 29)).alloc (.cells zero3 29)).heap[w1.drew.heap.size]? = some (.cells zero3 29 (0, 0)) := (Below.heap_alloc _ _ _ (by simp)).trans (heap_alloc_new _ _)
    have r2 : ((w1.drew.alloc (.cells zero3 29)).alloc (.cells zero3 29)).heap[w1.drew.heap.size + 1]? = some (.cells zero3 29 (0, 0)) := alloc2_at _ _ _
    refine tree_two ?_ ?_
    ·
      apply tree_run; (exact rfl); rfl; intro K hK; go_simp
      refine hK.out _ _ h1 (fun _ => ?_)
      clear hK K
      try simp only [Act.put, List.setIfInBounds_toArray, List.set_cons_zero, List.set_cons_succ]
      apply tree_run; (exact rfl); rfl; intro K hK; go_simp
      refine hK.out _ _ h2 (fun _ => ?_)
      clear hK K
      try simp only [Act.put, List.setIfInBounds_toArray, List.set_cons_zero, List.set_cons_succ]
      have hG := joinG_store (w := w) (pg := pg) (wd := wd) (x := x) (y := y) (L := L) (R := R) (s := s) h2 r1 r2 (by omega) (by omega) (by omega)
      apply tree_run; (exact rfl); rfl; intro K hK
      refine wp_store_row 29 (.tmp 6) (.tmp 16) rfl (w1.drew.heap.size) (node3 x L) rfl rfl 29 zero3 r1 info29' rfl (sl3_one _ _ _ _ _ _ _ _ _) ?_
      refine hK.out _ _ (below_setRow h2 (by omega) _) (fun _ => ?_)
      clear hK K
      try simp only [Act.put]
      apply tree_run; (exact rfl); rfl; intro K hK
      refine wp_store_row 29 (.tmp 7) (.tmp 18) rfl (w1.drew.heap.size + 1) (node3 y R) rfl rfl 29 zero3 ((setRow_other _ _ _ _ (by omega)).trans r2) info29' rfl (sl3_one _ _ _ _ _ _ _ _ _) ?_
      refine hK.out _ _ hG.bl (fun _ => ?_)
      clear hK K
      try simp only [Act.put]
      exact tree_done ⟨(w1.drew.heap.size, w1.drew.heap.size + 1), rfl, rfl, hG⟩
    ·
      apply tree_run; (exact rfl); rfl; intro K hK; go_simp
      refine hK.out _ _ h1 (fun _ => ?_)
      clear hK K
      try simp only [Act.put, List.setIfInBounds_toArray, List.set_cons_zero, List.set_cons_succ]
      apply tree_run; (exact rfl); rfl; intro K hK; go_simp
      refine hK.out _ _ h2 (fun _ => ?_)
      clear hK K
      try simp only [Act.put, List.setIfInBounds_toArray, List.set_cons_zero, List.set_cons_succ]
      have hG := joinG_store (w := w) (pg := pg) (wd := wd) (x := x) (y := y) (L := L) (R := R) (s := s) h2 r2 r1 (by omega) (by omega) (by omega)
      apply tree_run; (exact rfl); rfl; intro K hK
      refine wp_store_row 29 (.tmp 6) (.tmp 16) rfl (w1.drew.heap.size + 1) (node3 x L) rfl rfl 29 zero3 r2 info29' rfl (sl3_one _ _ _ _ _ _ _ _ _) ?_
      refine hK.out _ _ (below_setRow h2 (by omega) _) (fun _ => ?_)
      clear hK K
      try simp only [Act.put]
      apply tree_run; (exact rfl); rfl; intro K hK
      refine wp_store_row 29 (.tmp 7) (.tmp 18) rfl (w1.drew.heap.size) (node3 y R) rfl rfl 29 zero3 ((setRow_other _ _ _ _ (by omega)).trans r1) info29' rfl (sl3_one _ _ _ _ _ _ _ _ _) ?_
      refine hK.out _ _ hG.bl (fun _ => ?_)
      clear hK K
      try simp only [Act.put]
      exact tree_done ⟨(w1.drew.heap.size + 1, w1.drew.heap.size), rfl, rfl, hG⟩
  case rest =>
  rintro ⟨g1, g2⟩ W hG
  have HG0 := Lib.hid hG
  have HLR := Lib.hid (fun W (h : JoinG w pg wd x L s y R (g1, g2) W) => HL.out.below (join_below h.bl))
  have HRR := Lib.hid (fun W (h : JoinG w pg wd x L s y R (g1, g2) W) => HRD.out.below (join_below h.bl))
  clear hG
  obtain ⟨⟨⟨s0, s1⟩, s2⟩, ⟨m0, m1, m2⟩, ⟨n0, n1, n2⟩, ⟨z0, z1, z2, z3⟩⟩ := HG0.out.facts
  simp only [Act.put, List.setIfInBounds_toArray, List.set_cons_zero, List.set_cons_succ]
  dsimp only at m0 m1 m2 n0 n1 n2 z2 z3
  go_wp2_with (first
    | (go_at_call 62; go_must (refine (leaf_v pg wd _ _ _ _ _ _ L _ (HLR.out _ HG0.out) _ HNL.out).mono ?_; rintro e w2 ⟨rfl, hb2⟩; have HGa := Lib.hid (HG0.out.next hb2); clear hb2 HG0 HNL; clear s0 s1 s2 m0 m1 m2 n0 n1 n2 z0 z1 z2 z3; obtain ⟨⟨⟨s0, s1⟩, s2⟩, ⟨m0, m1, m2⟩, ⟨n0, n1, n2⟩, ⟨z0, z1, z2, z3⟩⟩ := HGa.out.facts; dsimp only at m0 m1 m2 n0 n1 n2 z2 z3))
    | (go_at_call 84; skip; (refine (branch_v pg wd _ _ _ _ _ _ L _ (HLR.out _ HGa.out) _ HB1.out).mono ?_; rintro e w2 ⟨rfl, hb2⟩; have HG1 := Lib.hid (HGa.out.next hb2); clear hb2 HGa HB1; clear s0 s1 s2 m0 m1 m2 n0 n1 n2 z0 z1 z2 z3; obtain ⟨⟨⟨s0, s1⟩, s2⟩, ⟨m0, m1, m2⟩, ⟨n0, n1, n2⟩, ⟨z0, z1, z2, z3⟩⟩ := HG1.out.facts; dsimp only at m0 m1 m2 n0 n1 n2 z2 z3))
    | (go_at_call 84; go_must (refine (branch_v pg wd _ _ _ _ _ _ R _ (HRR.out _ HG1.out) _ HB2.out).mono ?_; rintro e w3 ⟨rfl, hb3⟩; have HG2 := Lib.hid (HG1.out.next hb3); clear hb3 HG1 HB2; clear s0 s1 s2 m0 m1 m2 n0 n1 n2 z0 z1 z2 z3; obtain ⟨⟨⟨s0, s1⟩, s2⟩, ⟨m0, m1, m2⟩, ⟨n0, n1, n2⟩, ⟨z0, z1, z2, z3⟩⟩ := HG2.out.facts; dsimp only at m0 m1 m2 n0 n1 n2 z2 z3)))
  refine wp_region_grow (by kernel_rfl) (by kernel_rfl) ?_
  repeat (any_goals (first | go_big_quiet_step ((go_at_call 63; exact quiet_below (maxKey_c pg wd _ h0 h1))) | quiet_step ((go_at_call 63; exact quiet_below (maxKey_c pg wd _ h0 h1)))))
  refine wpQuiet_nil ?_
  intro w3 hb
  have HG3 := Lib.hid (HG2.out.next hb)
  clear hb HG2
  clear s0 s1 s2 m0 m1 m2 n0 n1 n2 z0 z1 z2 z3; obtain ⟨⟨⟨s0, s1⟩, s2⟩, ⟨m0, m1, m2⟩, ⟨n0, n1, n2⟩, ⟨z0, z1, z2, z3⟩⟩ := HG3.out.facts; dsimp only at m0 m1 m2 n0 n1 n2 z2 z3
  go_wp2
  refine wp_region_grow (by kernel_rfl) (by kernel_rfl) ?_
  repeat (any_goals (first | go_big_quiet_step (fail) | quiet_step (fail)))
  refine wpQuiet_nil ?_
  intro w4 hb
  have HG4 := Lib.hid (HG3.out.next hb)
  clear hb HG3
  clear s0 s1 s2 m0 m1 m2 n0 n1 n2 z0 z1 z2 z3; obtain ⟨⟨⟨s0, s1⟩, s2⟩, ⟨m0, m1, m2⟩, ⟨n0, n1, n2⟩, ⟨z0, z1, z2, z3⟩⟩ := HG4.out.facts; dsimp only at m0 m1 m2 n0 n1 n2 z2 z3
  go_wp2
  refine wp_region_grow (by kernel_rfl) (by kernel_rfl) ?_
  repeat (any_goals (first | go_big_quiet_step (fail) | quiet_step (fail)))
  refine wpQuiet_nil ?_
  intro w5 hb
  have HG5 := Lib.hid (HG4.out.next hb)
  clear hb HG4
  clear s0 s1 s2 m0 m1 m2 n0 n1 n2 z0 z1 z2 z3; obtain ⟨⟨⟨s0, s1⟩, s2⟩, ⟨m0, m1, m2⟩, ⟨n0, n1, n2⟩, ⟨z0, z1, z2, z3⟩⟩ := HG5.out.facts; dsimp only at m0 m1 m2 n0 n1 n2 z2 z3
  have hg := join_row HG5.out.bl
  go_wp2_with (first
    | (refine wpList_store_row rfl 29 (.tmp 4) (.tmp 143) rfl (w.heap.size + 1 + 1) zero3 rfl rfl 29 _ hg info29' rfl (sl3_one _ _ _ _ _ _ _ _ _) ?_))
  refine bodyPost_ret (results_ct rfl _ _ (w.heap.size + 1 + 1) 29 zero3 (0, 0) _ rfl (setRow_block _ _ _ _ _ _ hg) Try.underlying29 rfl info29') rfl ?_
  exact join_err w _ pg wd L s R 81 HE.out (by decide) (below_setRow (join_below HG5.out.bl) (by omega) _)


theorem join_branch_b3 (pg wd : Int) (x : VH) (L : NodeD) (s : ByteArray) (y : VH) (R : NodeD) (w : World) (hL : RdN w x.A0 x.c0 x.A1 x.c1 x.A2 x.c2 L) (hR : RdN w y.A0 y.c0 y.A1 y.c1 y.A2 y.c2 R) (hsm : s.size ≤ 140737488355328)
    (hr : right pg wd = true) (h1 : branchB pg wd L = true) (h2 : branchB pg wd R = true) (hnl : leafB pg wd L = false) (k1 : (s.toList == []) = false) (k2 : decide ((s.size : Int) ≤ pg / 16) = true) (m : Nat) (hm : L.seps.length = m + 1) (lk : ByteArray) (hlk : sepAt L.seps m = lk) (ho : Op.bytesLess lk.toList s.toList = false) (hE : joinE pg wd L s R = 81) :
    Calls Try.prog 89 #[vF pg wd, vH x L s y R] w fun e w' => JoinPost pg wd L s R w e w' := by
  obtain ⟨⟨h0', h1'⟩, _, _⟩ := right_spec hr
  have h0 : 0 ≤ pg := by omega
  have HRI := Lib.hid hr
  have HL := Lib.hid hL
  have HRD := Lib.hid hR
  have HB1 := Lib.hid h1
  have HB2 := Lib.hid h2
  have hlp := hL.hs
  have hrp := hR.hs
  have HSM : Hid (s.size ≤ 140737488355328) := Lib.hid hsm
  have HNL := Lib.hid hnl
  clear hnl hr h1 h2 hL hR h0'
  have h1 := h1'
  have HE := Lib.hid hE
  clear hE
  have HM := Lib.hid hm
  have HLK := Lib.hid hlk
  clear hm hlk
  go_enter Try.func89, Try.ntmps89
  go_wp2_with (first
    | (go_at_call 61; refine (frame_v pg wd _ _ HRI.out).mono ?_; rintro e w1 ⟨rfl, hb⟩; have hB1 := join_first hb; clear hb))
  refine region_mid (α := Nat × Nat) (fun X a => ((((((a.put (some 15) (.pointer (some ⟨w.heap.size + 1, 0, none⟩))).put (some 16) (vN x.A0 x.c0 x.A1 x.c1 x.A2 x.c2 L)).put (some 17) (.pointer (some ⟨w.heap.size + 1, 4, none⟩))).put (some 18) (vN y.A0 y.c0 y.A1 y.c1 y.A2 y.c2 R)).put (some 6) (.pointer (some ⟨X.1, 0, none⟩))).put (some 7) (.pointer (some ⟨X.2, 0, none⟩)))) (fun X W => JoinG w pg wd x L s y R X W) ?region ?rest
  case region =>
    have HF := Lib.hid (fun W (h : Below (w.heap.size + 1 + 1 + 1) (joinW w pg wd x L s y R) W) => join_boxes h)
    refine wp_region_tree (S := Below (w.heap.size + 1 + 1 + 1) (joinW w pg wd x L s y R)) (.take 0 (.take 1 (.take 2 (.take 3 (.two 4 5 (.run 5 (.run 6 (.run 7 (.done)))) (.run 4 (.run 6 (.run 7 (.done)))))))))
      (by kernel_rfl) (by kernel_rfl) (by kernel_rfl) (by rintro c a d v W ⟨X, h, _⟩; cases h) hB1.drew ?_
    repeat (apply tree_take; (exact rfl); rfl; (intro W hW; obtain ⟨⟨q0, q1⟩, q2, q3, q4, q5, q6, q7, q8⟩ := HF.out W hW; go_simp; (try with_reducible rfl)); simp only [Act.put, List.setIfInBounds_toArray, List.set_cons_zero, List.set_cons_succ])
    have hlo : w.heap.size + 1 + 1 + 1 ≤ w1.drew.heap.size := join_size hB1.drew
    have h1 := hB1.drew.alloc hlo (.cells zero3 29)
    have h2 := h1.alloc (by rw [World.size_alloc]; omega) (.cells zero3 29)
    have r1 : ((w1.drew.alloc (.cells zero3 29)).alloc (.cells zero3 29)).heap[w1.drew.heap.size]? = some (.cells zero3 29 (0, 0)) := (Below.heap_alloc _ _ _ (by simp)).trans (heap_alloc_new _ _)
    have r2 : ((w1.drew.alloc (.cells zero3 29)).alloc (.cells zero3 29)).heap[w1.drew.heap.size + 1]? = some (.cells zero3 29 (0, 0)) := alloc2_at _ _ _
    refine tree_two ?_ ?_
    ·
      apply tree_run; (exact rfl); rfl; intro K hK; go_simp
      refine hK.out _ _ h1 (fun _ => ?_)
      clear hK K
      try simp only [Act.put, List.setIfInBounds_toArray, List.set_cons_zero, List.set_cons_succ]
      apply tree_run; (exact rfl); rfl; intro K hK; go_simp
      refine hK.out _ _ h2 (fun _ => ?_)
      clear hK K
      try simp only [Act.put, List.setIfInBounds_toArray, List.set_cons_zero, List.set_cons_succ]
      have hG := joinG_store (w := w) (pg := pg) (wd := wd) (x := x) (y := y) (L := L) (R := R) (s := s) h2 r1 r2 (by omega) (by omega) (by omega)
      apply tree_run; (exact rfl); rfl; intro K hK
      refine wp_store_row 29 (.tmp 6) (.tmp 16) rfl (w1.drew.heap.size) (node3 x L) rfl rfl 29 zero3 r1 info29' rfl (sl3_one _ _ _ _ _ _ _ _ _) ?_
      refine hK.out _ _ (below_setRow h2 (by omega) _) (fun _ => ?_)
      clear hK K
      try simp only [Act.put]
      apply tree_run; (exact rfl); rfl; intro K hK
      refine wp_store_row 29 (.tmp 7) (.tmp 18) rfl (w1.drew.heap.size + 1) (node3 y R) rfl rfl 29 zero3 ((setRow_other _ _ _ _ (by omega)).trans r2) info29' rfl (sl3_one _ _ _ _ _ _ _ _ _) ?_
      refine hK.out _ _ hG.bl (fun _ => ?_)
      clear hK K
      try simp only [Act.put]
      exact tree_done ⟨(w1.drew.heap.size, w1.drew.heap.size + 1), rfl, rfl, hG⟩
    ·
      apply tree_run; (exact rfl); rfl; intro K hK; go_simp
      refine hK.out _ _ h1 (fun _ => ?_)
      clear hK K
      try simp only [Act.put, List.setIfInBounds_toArray, List.set_cons_zero, List.set_cons_succ]
      apply tree_run; (exact rfl); rfl; intro K hK; go_simp
      refine hK.out _ _ h2 (fun _ => ?_)
      clear hK K
      try simp only [Act.put, List.setIfInBounds_toArray, List.set_cons_zero, List.set_cons_succ]
      have hG := joinG_store (w := w) (pg := pg) (wd := wd) (x := x) (y := y) (L := L) (R := R) (s := s) h2 r2 r1 (by omega) (by omega) (by omega)
      apply tree_run; (exact rfl); rfl; intro K hK
      refine wp_store_row 29 (.tmp 6) (.tmp 16) rfl (w1.drew.heap.size + 1) (node3 x L) rfl rfl 29 zero3 r2 info29' rfl (sl3_one _ _ _ _ _ _ _ _ _) ?_
      refine hK.out _ _ (below_setRow h2 (by omega) _) (fun _ => ?_)
      clear hK K
      try simp only [Act.put]
      apply tree_run; (exact rfl); rfl; intro K hK
      refine wp_store_row 29 (.tmp 7) (.tmp 18) rfl (w1.drew.heap.size) (node3 y R) rfl rfl 29 zero3 ((setRow_other _ _ _ _ (by omega)).trans r1) info29' rfl (sl3_one _ _ _ _ _ _ _ _ _) ?_
      refine hK.out _ _ hG.bl (fun _ => ?_)
      clear hK K
      try simp only [Act.put]
      exact tree_done ⟨(w1.drew.heap.size + 1, w1.drew.heap.size), rfl, rfl, hG⟩
  case rest =>
  rintro ⟨g1, g2⟩ W hG
  have HG0 := Lib.hid hG
  have HLR := Lib.hid (fun W (h : JoinG w pg wd x L s y R (g1, g2) W) => HL.out.below (join_below h.bl))
  have HRR := Lib.hid (fun W (h : JoinG w pg wd x L s y R (g1, g2) W) => HRD.out.below (join_below h.bl))
  clear hG
  obtain ⟨⟨⟨s0, s1⟩, s2⟩, ⟨m0, m1, m2⟩, ⟨n0, n1, n2⟩, ⟨z0, z1, z2, z3⟩⟩ := HG0.out.facts
  simp only [Act.put, List.setIfInBounds_toArray, List.set_cons_zero, List.set_cons_succ]
  dsimp only at m0 m1 m2 n0 n1 n2 z2 z3
  go_wp2_with (first
    | (go_at_call 62; go_must (refine (leaf_v pg wd _ _ _ _ _ _ L _ (HLR.out _ HG0.out) _ HNL.out).mono ?_; rintro e w2 ⟨rfl, hb2⟩; have HGa := Lib.hid (HG0.out.next hb2); clear hb2 HG0 HNL; clear s0 s1 s2 m0 m1 m2 n0 n1 n2 z0 z1 z2 z3; obtain ⟨⟨⟨s0, s1⟩, s2⟩, ⟨m0, m1, m2⟩, ⟨n0, n1, n2⟩, ⟨z0, z1, z2, z3⟩⟩ := HGa.out.facts; dsimp only at m0 m1 m2 n0 n1 n2 z2 z3))
    | (go_at_call 84; skip; (refine (branch_v pg wd _ _ _ _ _ _ L _ (HLR.out _ HGa.out) _ HB1.out).mono ?_; rintro e w2 ⟨rfl, hb2⟩; have HG1 := Lib.hid (HGa.out.next hb2); clear hb2 HGa HB1; clear s0 s1 s2 m0 m1 m2 n0 n1 n2 z0 z1 z2 z3; obtain ⟨⟨⟨s0, s1⟩, s2⟩, ⟨m0, m1, m2⟩, ⟨n0, n1, n2⟩, ⟨z0, z1, z2, z3⟩⟩ := HG1.out.facts; dsimp only at m0 m1 m2 n0 n1 n2 z2 z3))
    | (go_at_call 84; go_must (refine (branch_v pg wd _ _ _ _ _ _ R _ (HRR.out _ HG1.out) _ HB2.out).mono ?_; rintro e w3 ⟨rfl, hb3⟩; have HG2 := Lib.hid (HG1.out.next hb3); clear hb3 HG1 HB2; clear s0 s1 s2 m0 m1 m2 n0 n1 n2 z0 z1 z2 z3; obtain ⟨⟨⟨s0, s1⟩, s2⟩, ⟨m0, m1, m2⟩, ⟨n0, n1, n2⟩, ⟨z0, z1, z2, z3⟩⟩ := HG2.out.facts; dsimp only at m0 m1 m2 n0 n1 n2 z2 z3)))
  refine wp_region_grow (by kernel_rfl) (by kernel_rfl) ?_
  repeat (any_goals (first | go_big_quiet_step ((go_at_call 63; exact quiet_below (maxKey_c pg wd _ h0 h1))) | quiet_step ((go_at_call 63; exact quiet_below (maxKey_c pg wd _ h0 h1)))))
  refine wpQuiet_nil ?_
  intro w3 hb
  have HG3 := Lib.hid (HG2.out.next hb)
  clear hb HG2
  clear s0 s1 s2 m0 m1 m2 n0 n1 n2 z0 z1 z2 z3; obtain ⟨⟨⟨s0, s1⟩, s2⟩, ⟨m0, m1, m2⟩, ⟨n0, n1, n2⟩, ⟨z0, z1, z2, z3⟩⟩ := HG3.out.facts; dsimp only at m0 m1 m2 n0 n1 n2 z2 z3
  go_wp2
  have hm := HM.out
  obtain ⟨ab, ao, ax, ak⟩ := seps_at (HLR.out _ HG3.out).seps (show m < L.seps.length by omega)
  rw [← sepAt_get (show m < L.seps.length by omega), HLK.out] at ak
  have hm0 : ((m : Int) + 1 == 0) = false := by rw [beq_eq_false_iff_ne]; omega
  have hmb : m ≤ 140737488355328 := by omega
  have ab3 : ab < w3.heap.size := World.block_lt_of_cell? _ _ ak
  rw [ax, hm] at m1; clear hm
  refine wp_region_grow (by kernel_rfl) (by kernel_rfl) ?_
  repeat (any_goals (first | go_big_quiet_step (fail) | quiet_step (fail)))
  refine wpQuiet_nil ?_
  intro w4 hb
  have HG4 := Lib.hid (HG3.out.next hb)
  clear hb HG3
  clear s0 s1 s2 m0 m1 m2 n0 n1 n2 z0 z1 z2 z3; obtain ⟨⟨⟨s0, s1⟩, s2⟩, ⟨m0, m1, m2⟩, ⟨n0, n1, n2⟩, ⟨z0, z1, z2, z3⟩⟩ := HG4.out.facts; dsimp only at m0 m1 m2 n0 n1 n2 z2 z3
  go_wp2
  clear ak ab3
  refine wp_region_grow (by kernel_rfl) (by kernel_rfl) ?_
  repeat (any_goals (first | go_big_quiet_step (fail) | quiet_step (fail)))
  refine wpQuiet_nil ?_
  intro w5 hb
  have HG5 := Lib.hid (HG4.out.next hb)
  clear hb HG4
  clear s0 s1 s2 m0 m1 m2 n0 n1 n2 z0 z1 z2 z3; obtain ⟨⟨⟨s0, s1⟩, s2⟩, ⟨m0, m1, m2⟩, ⟨n0, n1, n2⟩, ⟨z0, z1, z2, z3⟩⟩ := HG5.out.facts; dsimp only at m0 m1 m2 n0 n1 n2 z2 z3
  have hg := join_row HG5.out.bl
  go_wp2_with (first
    | (refine wpList_store_row rfl 29 (.tmp 4) (.tmp 143) rfl (w.heap.size + 1 + 1) zero3 rfl rfl 29 _ hg info29' rfl (sl3_one _ _ _ _ _ _ _ _ _) ?_))
  refine bodyPost_ret (results_ct rfl _ _ (w.heap.size + 1 + 1) 29 zero3 (0, 0) _ rfl (setRow_block _ _ _ _ _ _ hg) Try.underlying29 rfl info29') rfl ?_
  exact join_err w _ pg wd L s R 81 HE.out (by decide) (below_setRow (join_below HG5.out.bl) (by omega) _)


theorem join_branch_b4 (pg wd : Int) (x : VH) (L : NodeD) (s : ByteArray) (y : VH) (R : NodeD) (w : World) (hL : RdN w x.A0 x.c0 x.A1 x.c1 x.A2 x.c2 L) (hR : RdN w y.A0 y.c0 y.A1 y.c1 y.A2 y.c2 R) (hsm : s.size ≤ 140737488355328)
    (hr : right pg wd = true) (h1 : branchB pg wd L = true) (h2 : branchB pg wd R = true) (hnl : leafB pg wd L = false) (k1 : (s.toList == []) = false) (k2 : decide ((s.size : Int) ≤ pg / 16) = true) (hm : L.seps.length = 0) (n : Nat) (hn : R.seps.length = n + 1) (rk : ByteArray) (hrk : sepAt R.seps 0 = rk) (hq : Op.bytesLess rk.toList s.toList = true) (hE : joinE pg wd L s R = 81) :
    Calls Try.prog 89 #[vF pg wd, vH x L s y R] w fun e w' => JoinPost pg wd L s R w e w' := by
  obtain ⟨⟨h0', h1'⟩, _, _⟩ := right_spec hr
  have h0 : 0 ≤ pg := by omega
  have HRI := Lib.hid hr
  have HL := Lib.hid hL
  have HRD := Lib.hid hR
  have HB1 := Lib.hid h1
  have HB2 := Lib.hid h2
  have hlp := hL.hs
  have hrp := hR.hs
  have HSM : Hid (s.size ≤ 140737488355328) := Lib.hid hsm
  have HNL := Lib.hid hnl
  clear hnl hr h1 h2 hL hR h0'
  have h1 := h1'
  have HE := Lib.hid hE
  clear hE
  have HM := Lib.hid hm
  clear hm
  have HNN := Lib.hid hn
  have HRK := Lib.hid hrk
  clear hn hrk
  go_enter Try.func89, Try.ntmps89
  go_wp2_with (first
    | (go_at_call 61; refine (frame_v pg wd _ _ HRI.out).mono ?_; rintro e w1 ⟨rfl, hb⟩; have hB1 := join_first hb; clear hb))
  refine region_mid (α := Nat × Nat) (fun X a => ((((((a.put (some 15) (.pointer (some ⟨w.heap.size + 1, 0, none⟩))).put (some 16) (vN x.A0 x.c0 x.A1 x.c1 x.A2 x.c2 L)).put (some 17) (.pointer (some ⟨w.heap.size + 1, 4, none⟩))).put (some 18) (vN y.A0 y.c0 y.A1 y.c1 y.A2 y.c2 R)).put (some 6) (.pointer (some ⟨X.1, 0, none⟩))).put (some 7) (.pointer (some ⟨X.2, 0, none⟩)))) (fun X W => JoinG w pg wd x L s y R X W) ?region ?rest
  case region =>
    have HF := Lib.hid (fun W (h : Below (w.heap.size + 1 + 1 + 1) (joinW w pg wd x L s y R) W) => join_boxes h)
    refine wp_region_tree (S := Below (w.heap.size + 1 + 1 + 1) (joinW w pg wd x L s y R)) (.take 0 (.take 1 (.take 2 (.take 3 (.two 4 5 (.run 5 (.run 6 (.run 7 (.done)))) (.run 4 (.run 6 (.run 7 (.done)))))))))
      (by kernel_rfl) (by kernel_rfl) (by kernel_rfl) (by rintro c a d v W ⟨X, h, _⟩; cases h) hB1.drew ?_
    repeat (apply tree_take; (exact rfl); rfl; (intro W hW; obtain ⟨⟨q0, q1⟩, q2, q3, q4, q5, q6, q7, q8⟩ := HF.out W hW; go_simp; (try with_reducible rfl)); simp only [Act.put, List.setIfInBounds_toArray, List.set_cons_zero, List.set_cons_succ])
    have hlo : w.heap.size + 1 + 1 + 1 ≤ w1.drew.heap.size := join_size hB1.drew
    have h1 := hB1.drew.alloc hlo (.cells zero3 29)
    have h2 := h1.alloc (by rw [World.size_alloc]; omega) (.cells zero3 29)
    have r1 : ((w1.drew.alloc (.cells zero3 29)).alloc (.cells zero3 29)).heap[w1.drew.heap.size]? = some (.cells zero3 29 (0, 0)) := (Below.heap_alloc _ _ _ (by simp)).trans (heap_alloc_new _ _)
    have r2 : ((w1.drew.alloc (.cells zero3 29)).alloc (.cells zero3 29)).heap[w1.drew.heap.size + 1]? = some (.cells zero3 29 (0, 0)) := alloc2_at _ _ _
    refine tree_two ?_ ?_
    ·
      apply tree_run; (exact rfl); rfl; intro K hK; go_simp
      refine hK.out _ _ h1 (fun _ => ?_)
      clear hK K
      try simp only [Act.put, List.setIfInBounds_toArray, List.set_cons_zero, List.set_cons_succ]
      apply tree_run; (exact rfl); rfl; intro K hK; go_simp
      refine hK.out _ _ h2 (fun _ => ?_)
      clear hK K
      try simp only [Act.put, List.setIfInBounds_toArray, List.set_cons_zero, List.set_cons_succ]
      have hG := joinG_store (w := w) (pg := pg) (wd := wd) (x := x) (y := y) (L := L) (R := R) (s := s) h2 r1 r2 (by omega) (by omega) (by omega)
      apply tree_run; (exact rfl); rfl; intro K hK
      refine wp_store_row 29 (.tmp 6) (.tmp 16) rfl (w1.drew.heap.size) (node3 x L) rfl rfl 29 zero3 r1 info29' rfl (sl3_one _ _ _ _ _ _ _ _ _) ?_
      refine hK.out _ _ (below_setRow h2 (by omega) _) (fun _ => ?_)
      clear hK K
      try simp only [Act.put]
      apply tree_run; (exact rfl); rfl; intro K hK
      refine wp_store_row 29 (.tmp 7) (.tmp 18) rfl (w1.drew.heap.size + 1) (node3 y R) rfl rfl 29 zero3 ((setRow_other _ _ _ _ (by omega)).trans r2) info29' rfl (sl3_one _ _ _ _ _ _ _ _ _) ?_
      refine hK.out _ _ hG.bl (fun _ => ?_)
      clear hK K
      try simp only [Act.put]
      exact tree_done ⟨(w1.drew.heap.size, w1.drew.heap.size + 1), rfl, rfl, hG⟩
    ·
      apply tree_run; (exact rfl); rfl; intro K hK; go_simp
      refine hK.out _ _ h1 (fun _ => ?_)
      clear hK K
      try simp only [Act.put, List.setIfInBounds_toArray, List.set_cons_zero, List.set_cons_succ]
      apply tree_run; (exact rfl); rfl; intro K hK; go_simp
      refine hK.out _ _ h2 (fun _ => ?_)
      clear hK K
      try simp only [Act.put, List.setIfInBounds_toArray, List.set_cons_zero, List.set_cons_succ]
      have hG := joinG_store (w := w) (pg := pg) (wd := wd) (x := x) (y := y) (L := L) (R := R) (s := s) h2 r2 r1 (by omega) (by omega) (by omega)
      apply tree_run; (exact rfl); rfl; intro K hK
      refine wp_store_row 29 (.tmp 6) (.tmp 16) rfl (w1.drew.heap.size + 1) (node3 x L) rfl rfl 29 zero3 r2 info29' rfl (sl3_one _ _ _ _ _ _ _ _ _) ?_
      refine hK.out _ _ (below_setRow h2 (by omega) _) (fun _ => ?_)
      clear hK K
      try simp only [Act.put]
      apply tree_run; (exact rfl); rfl; intro K hK
      refine wp_store_row 29 (.tmp 7) (.tmp 18) rfl (w1.drew.heap.size) (node3 y R) rfl rfl 29 zero3 ((setRow_other _ _ _ _ (by omega)).trans r1) info29' rfl (sl3_one _ _ _ _ _ _ _ _ _) ?_
      refine hK.out _ _ hG.bl (fun _ => ?_)
      clear hK K
      try simp only [Act.put]
      exact tree_done ⟨(w1.drew.heap.size + 1, w1.drew.heap.size), rfl, rfl, hG⟩
  case rest =>
  rintro ⟨g1, g2⟩ W hG
  have HG0 := Lib.hid hG
  have HLR := Lib.hid (fun W (h : JoinG w pg wd x L s y R (g1, g2) W) => HL.out.below (join_below h.bl))
  have HRR := Lib.hid (fun W (h : JoinG w pg wd x L s y R (g1, g2) W) => HRD.out.below (join_below h.bl))
  clear hG
  obtain ⟨⟨⟨s0, s1⟩, s2⟩, ⟨m0, m1, m2⟩, ⟨n0, n1, n2⟩, ⟨z0, z1, z2, z3⟩⟩ := HG0.out.facts
  simp only [Act.put, List.setIfInBounds_toArray, List.set_cons_zero, List.set_cons_succ]
  dsimp only at m0 m1 m2 n0 n1 n2 z2 z3
  go_wp2_with (first
    | (go_at_call 62; go_must (refine (leaf_v pg wd _ _ _ _ _ _ L _ (HLR.out _ HG0.out) _ HNL.out).mono ?_; rintro e w2 ⟨rfl, hb2⟩; have HGa := Lib.hid (HG0.out.next hb2); clear hb2 HG0 HNL; clear s0 s1 s2 m0 m1 m2 n0 n1 n2 z0 z1 z2 z3; obtain ⟨⟨⟨s0, s1⟩, s2⟩, ⟨m0, m1, m2⟩, ⟨n0, n1, n2⟩, ⟨z0, z1, z2, z3⟩⟩ := HGa.out.facts; dsimp only at m0 m1 m2 n0 n1 n2 z2 z3))
    | (go_at_call 84; skip; (refine (branch_v pg wd _ _ _ _ _ _ L _ (HLR.out _ HGa.out) _ HB1.out).mono ?_; rintro e w2 ⟨rfl, hb2⟩; have HG1 := Lib.hid (HGa.out.next hb2); clear hb2 HGa HB1; clear s0 s1 s2 m0 m1 m2 n0 n1 n2 z0 z1 z2 z3; obtain ⟨⟨⟨s0, s1⟩, s2⟩, ⟨m0, m1, m2⟩, ⟨n0, n1, n2⟩, ⟨z0, z1, z2, z3⟩⟩ := HG1.out.facts; dsimp only at m0 m1 m2 n0 n1 n2 z2 z3))
    | (go_at_call 84; go_must (refine (branch_v pg wd _ _ _ _ _ _ R _ (HRR.out _ HG1.out) _ HB2.out).mono ?_; rintro e w3 ⟨rfl, hb3⟩; have HG2 := Lib.hid (HG1.out.next hb3); clear hb3 HG1 HB2; clear s0 s1 s2 m0 m1 m2 n0 n1 n2 z0 z1 z2 z3; obtain ⟨⟨⟨s0, s1⟩, s2⟩, ⟨m0, m1, m2⟩, ⟨n0, n1, n2⟩, ⟨z0, z1, z2, z3⟩⟩ := HG2.out.facts; dsimp only at m0 m1 m2 n0 n1 n2 z2 z3)))
  refine wp_region_grow (by kernel_rfl) (by kernel_rfl) ?_
  repeat (any_goals (first | go_big_quiet_step ((go_at_call 63; exact quiet_below (maxKey_c pg wd _ h0 h1))) | quiet_step ((go_at_call 63; exact quiet_below (maxKey_c pg wd _ h0 h1)))))
  refine wpQuiet_nil ?_
  intro w3 hb
  have HG3 := Lib.hid (HG2.out.next hb)
  clear hb HG2
  clear s0 s1 s2 m0 m1 m2 n0 n1 n2 z0 z1 z2 z3; obtain ⟨⟨⟨s0, s1⟩, s2⟩, ⟨m0, m1, m2⟩, ⟨n0, n1, n2⟩, ⟨z0, z1, z2, z3⟩⟩ := HG3.out.facts; dsimp only at m0 m1 m2 n0 n1 n2 z2 z3
  go_wp2
  rw [HM.out] at m1
  refine wp_region_grow (by kernel_rfl) (by kernel_rfl) ?_
  repeat (any_goals (first | go_big_quiet_step (fail) | quiet_step (fail)))
  refine wpQuiet_nil ?_
  intro w4 hb
  have HG4 := Lib.hid (HG3.out.next hb)
  clear hb HG3
  clear s0 s1 s2 m0 m1 m2 n0 n1 n2 z0 z1 z2 z3; obtain ⟨⟨⟨s0, s1⟩, s2⟩, ⟨m0, m1, m2⟩, ⟨n0, n1, n2⟩, ⟨z0, z1, z2, z3⟩⟩ := HG4.out.facts; dsimp only at m0 m1 m2 n0 n1 n2 z2 z3
  go_wp2
  have hn := HNN.out
  obtain ⟨bb, bo, bx, bk⟩ := seps_at (HRR.out _ HG4.out).seps (show 0 < R.seps.length by omega)
  rw [← sepAt_get (show 0 < R.seps.length by omega), HRK.out] at bk
  have bb4 : bb < w4.heap.size := World.block_lt_of_cell? _ _ bk
  simp only [Nat.add_zero] at bk
  rw [bx, hn] at n1; clear hn
  refine wp_region_grow (by kernel_rfl) (by kernel_rfl) ?_
  repeat (any_goals (first | go_big_quiet_step (fail) | quiet_step (fail)))
  refine wpQuiet_nil ?_
  intro w5 hb
  have HG5 := Lib.hid (HG4.out.next hb)
  clear hb HG4
  clear s0 s1 s2 m0 m1 m2 n0 n1 n2 z0 z1 z2 z3; obtain ⟨⟨⟨s0, s1⟩, s2⟩, ⟨m0, m1, m2⟩, ⟨n0, n1, n2⟩, ⟨z0, z1, z2, z3⟩⟩ := HG5.out.facts; dsimp only at m0 m1 m2 n0 n1 n2 z2 z3
  clear bk bb4
  have hg := join_row HG5.out.bl
  go_wp2_with (first
    | (refine wpList_store_row rfl 29 (.tmp 4) (.tmp 143) rfl (w.heap.size + 1 + 1) zero3 rfl rfl 29 _ hg info29' rfl (sl3_one _ _ _ _ _ _ _ _ _) ?_))
  refine bodyPost_ret (results_ct rfl _ _ (w.heap.size + 1 + 1) 29 zero3 (0, 0) _ rfl (setRow_block _ _ _ _ _ _ hg) Try.underlying29 rfl info29') rfl ?_
  exact join_err w _ pg wd L s R 81 HE.out (by decide) (below_setRow (join_below HG5.out.bl) (by omega) _)


theorem join_branch_b6 (pg wd : Int) (x : VH) (L : NodeD) (s : ByteArray) (y : VH) (R : NodeD) (w : World) (hL : RdN w x.A0 x.c0 x.A1 x.c1 x.A2 x.c2 L) (hR : RdN w y.A0 y.c0 y.A1 y.c1 y.A2 y.c2 R) (hsm : s.size ≤ 140737488355328)
    (hr : right pg wd = true) (h1 : branchB pg wd L = true) (h2 : branchB pg wd R = true) (hnl : leafB pg wd L = false) (k1 : (s.toList == []) = false) (k2 : decide ((s.size : Int) ≤ pg / 16) = true) (hm : L.seps.length = 0) (n : Nat) (hn : R.seps.length = n + 1) (rk : ByteArray) (hrk : sepAt R.seps 0 = rk) (hq : Op.bytesLess rk.toList s.toList = false) (hq2 : (rk.toList == s.toList) = true) (hE : joinE pg wd L s R = 81) :
    Calls Try.prog 89 #[vF pg wd, vH x L s y R] w fun e w' => JoinPost pg wd L s R w e w' := by
  obtain ⟨⟨h0', h1'⟩, _, _⟩ := right_spec hr
  have h0 : 0 ≤ pg := by omega
  have HRI := Lib.hid hr
  have HL := Lib.hid hL
  have HRD := Lib.hid hR
  have HB1 := Lib.hid h1
  have HB2 := Lib.hid h2
  have hlp := hL.hs
  have hrp := hR.hs
  have HSM : Hid (s.size ≤ 140737488355328) := Lib.hid hsm
  have HNL := Lib.hid hnl
  clear hnl hr h1 h2 hL hR h0'
  have h1 := h1'
  have HE := Lib.hid hE
  clear hE
  have HM := Lib.hid hm
  clear hm
  have HNN := Lib.hid hn
  have HRK := Lib.hid hrk
  clear hn hrk
  go_enter Try.func89, Try.ntmps89
  go_wp2_with (first
    | (go_at_call 61; refine (frame_v pg wd _ _ HRI.out).mono ?_; rintro e w1 ⟨rfl, hb⟩; have hB1 := join_first hb; clear hb))
  refine region_mid (α := Nat × Nat) (fun X a => ((((((a.put (some 15) (.pointer (some ⟨w.heap.size + 1, 0, none⟩))).put (some 16) (vN x.A0 x.c0 x.A1 x.c1 x.A2 x.c2 L)).put (some 17) (.pointer (some ⟨w.heap.size + 1, 4, none⟩))).put (some 18) (vN y.A0 y.c0 y.A1 y.c1 y.A2 y.c2 R)).put (some 6) (.pointer (some ⟨X.1, 0, none⟩))).put (some 7) (.pointer (some ⟨X.2, 0, none⟩)))) (fun X W => JoinG w pg wd x L s y R X W) ?region ?rest
  case region =>
    have HF := Lib.hid (fun W (h : Below (w.heap.size + 1 + 1 + 1) (joinW w pg wd x L s y R) W) => join_boxes h)
    refine wp_region_tree (S := Below (w.heap.size + 1 + 1 + 1) (joinW w pg wd x L s y R)) (.take 0 (.take 1 (.take 2 (.take 3 (.two 4 5 (.run 5 (.run 6 (.run 7 (.done)))) (.run 4 (.run 6 (.run 7 (.done)))))))))
      (by kernel_rfl) (by kernel_rfl) (by kernel_rfl) (by rintro c a d v W ⟨X, h, _⟩; cases h) hB1.drew ?_
    repeat (apply tree_take; (exact rfl); rfl; (intro W hW; obtain ⟨⟨q0, q1⟩, q2, q3, q4, q5, q6, q7, q8⟩ := HF.out W hW; go_simp; (try with_reducible rfl)); simp only [Act.put, List.setIfInBounds_toArray, List.set_cons_zero, List.set_cons_succ])
    have hlo : w.heap.size + 1 + 1 + 1 ≤ w1.drew.heap.size := join_size hB1.drew
    have h1 := hB1.drew.alloc hlo (.cells zero3 29)
    have h2 := h1.alloc (by rw [World.size_alloc]; omega) (.cells zero3 29)
    have r1 : ((w1.drew.alloc (.cells zero3 29)).alloc (.cells zero3 29)).heap[w1.drew.heap.size]? = some (.cells zero3 29 (0, 0)) := (Below.heap_alloc _ _ _ (by simp)).trans (heap_alloc_new _ _)
    have r2 : ((w1.drew.alloc (.cells zero3 29)).alloc (.cells zero3 29)).heap[w1.drew.heap.size + 1]? = some (.cells zero3 29 (0, 0)) := alloc2_at _ _ _
    refine tree_two ?_ ?_
    ·
      apply tree_run; (exact rfl); rfl; intro K hK; go_simp
      refine hK.out _ _ h1 (fun _ => ?_)
      clear hK K
      try simp only [Act.put, List.setIfInBounds_toArray, List.set_cons_zero, List.set_cons_succ]
      apply tree_run; (exact rfl); rfl; intro K hK; go_simp
      refine hK.out _ _ h2 (fun _ => ?_)
      clear hK K
      try simp only [Act.put, List.setIfInBounds_toArray, List.set_cons_zero, List.set_cons_succ]
      have hG := joinG_store (w := w) (pg := pg) (wd := wd) (x := x) (y := y) (L := L) (R := R) (s := s) h2 r1 r2 (by omega) (by omega) (by omega)
      apply tree_run; (exact rfl); rfl; intro K hK
      refine wp_store_row 29 (.tmp 6) (.tmp 16) rfl (w1.drew.heap.size) (node3 x L) rfl rfl 29 zero3 r1 info29' rfl (sl3_one _ _ _ _ _ _ _ _ _) ?_
      refine hK.out _ _ (below_setRow h2 (by omega) _) (fun _ => ?_)
      clear hK K
      try simp only [Act.put]
      apply tree_run; (exact rfl); rfl; intro K hK
      refine wp_store_row 29 (.tmp 7) (.tmp 18) rfl (w1.drew.heap.size + 1) (node3 y R) rfl rfl 29 zero3 ((setRow_other _ _ _ _ (by omega)).trans r2) info29' rfl (sl3_one _ _ _ _ _ _ _ _ _) ?_
      refine hK.out _ _ hG.bl (fun _ => ?_)
      clear hK K
      try simp only [Act.put]
      exact tree_done ⟨(w1.drew.heap.size, w1.drew.heap.size + 1), rfl, rfl, hG⟩
    ·
      apply tree_run; (exact rfl); rfl; intro K hK; go_simp
      refine hK.out _ _ h1 (fun _ => ?_)
      clear hK K
      try simp only [Act.put, List.setIfInBounds_toArray, List.set_cons_zero, List.set_cons_succ]
      apply tree_run; (exact rfl); rfl; intro K hK; go_simp
      refine hK.out _ _ h2 (fun _ => ?_)
      clear hK K
      try simp only [Act.put, List.setIfInBounds_toArray, List.set_cons_zero, List.set_cons_succ]
      have hG := joinG_store (w := w) (pg := pg) (wd := wd) (x := x) (y := y) (L := L) (R := R) (s := s) h2 r2 r1 (by omega) (by omega) (by omega)
      apply tree_run; (exact rfl); rfl; intro K hK
      refine wp_store_row 29 (.tmp 6) (.tmp 16) rfl (w1.drew.heap.size + 1) (node3 x L) rfl rfl 29 zero3 r2 info29' rfl (sl3_one _ _ _ _ _ _ _ _ _) ?_
      refine hK.out _ _ (below_setRow h2 (by omega) _) (fun _ => ?_)
      clear hK K
      try simp only [Act.put]
      apply tree_run; (exact rfl); rfl; intro K hK
      refine wp_store_row 29 (.tmp 7) (.tmp 18) rfl (w1.drew.heap.size) (node3 y R) rfl rfl 29 zero3 ((setRow_other _ _ _ _ (by omega)).trans r1) info29' rfl (sl3_one _ _ _ _ _ _ _ _ _) ?_
      refine hK.out _ _ hG.bl (fun _ => ?_)
      clear hK K
      try simp only [Act.put]
      exact tree_done ⟨(w1.drew.heap.size + 1, w1.drew.heap.size), rfl, rfl, hG⟩
  case rest =>
  rintro ⟨g1, g2⟩ W hG
  have HG0 := Lib.hid hG
  have HLR := Lib.hid (fun W (h : JoinG w pg wd x L s y R (g1, g2) W) => HL.out.below (join_below h.bl))
  have HRR := Lib.hid (fun W (h : JoinG w pg wd x L s y R (g1, g2) W) => HRD.out.below (join_below h.bl))
  clear hG
  obtain ⟨⟨⟨s0, s1⟩, s2⟩, ⟨m0, m1, m2⟩, ⟨n0, n1, n2⟩, ⟨z0, z1, z2, z3⟩⟩ := HG0.out.facts
  simp only [Act.put, List.setIfInBounds_toArray, List.set_cons_zero, List.set_cons_succ]
  dsimp only at m0 m1 m2 n0 n1 n2 z2 z3
  go_wp2_with (first
    | (go_at_call 62; go_must (refine (leaf_v pg wd _ _ _ _ _ _ L _ (HLR.out _ HG0.out) _ HNL.out).mono ?_; rintro e w2 ⟨rfl, hb2⟩; have HGa := Lib.hid (HG0.out.next hb2); clear hb2 HG0 HNL; clear s0 s1 s2 m0 m1 m2 n0 n1 n2 z0 z1 z2 z3; obtain ⟨⟨⟨s0, s1⟩, s2⟩, ⟨m0, m1, m2⟩, ⟨n0, n1, n2⟩, ⟨z0, z1, z2, z3⟩⟩ := HGa.out.facts; dsimp only at m0 m1 m2 n0 n1 n2 z2 z3))
    | (go_at_call 84; skip; (refine (branch_v pg wd _ _ _ _ _ _ L _ (HLR.out _ HGa.out) _ HB1.out).mono ?_; rintro e w2 ⟨rfl, hb2⟩; have HG1 := Lib.hid (HGa.out.next hb2); clear hb2 HGa HB1; clear s0 s1 s2 m0 m1 m2 n0 n1 n2 z0 z1 z2 z3; obtain ⟨⟨⟨s0, s1⟩, s2⟩, ⟨m0, m1, m2⟩, ⟨n0, n1, n2⟩, ⟨z0, z1, z2, z3⟩⟩ := HG1.out.facts; dsimp only at m0 m1 m2 n0 n1 n2 z2 z3))
    | (go_at_call 84; go_must (refine (branch_v pg wd _ _ _ _ _ _ R _ (HRR.out _ HG1.out) _ HB2.out).mono ?_; rintro e w3 ⟨rfl, hb3⟩; have HG2 := Lib.hid (HG1.out.next hb3); clear hb3 HG1 HB2; clear s0 s1 s2 m0 m1 m2 n0 n1 n2 z0 z1 z2 z3; obtain ⟨⟨⟨s0, s1⟩, s2⟩, ⟨m0, m1, m2⟩, ⟨n0, n1, n2⟩, ⟨z0, z1, z2, z3⟩⟩ := HG2.out.facts; dsimp only at m0 m1 m2 n0 n1 n2 z2 z3)))
  refine wp_region_grow (by kernel_rfl) (by kernel_rfl) ?_
  repeat (any_goals (first | go_big_quiet_step ((go_at_call 63; exact quiet_below (maxKey_c pg wd _ h0 h1))) | quiet_step ((go_at_call 63; exact quiet_below (maxKey_c pg wd _ h0 h1)))))
  refine wpQuiet_nil ?_
  intro w3 hb
  have HG3 := Lib.hid (HG2.out.next hb)
  clear hb HG2
  clear s0 s1 s2 m0 m1 m2 n0 n1 n2 z0 z1 z2 z3; obtain ⟨⟨⟨s0, s1⟩, s2⟩, ⟨m0, m1, m2⟩, ⟨n0, n1, n2⟩, ⟨z0, z1, z2, z3⟩⟩ := HG3.out.facts; dsimp only at m0 m1 m2 n0 n1 n2 z2 z3
  go_wp2
  rw [HM.out] at m1
  refine wp_region_grow (by kernel_rfl) (by kernel_rfl) ?_
  repeat (any_goals (first | go_big_quiet_step (fail) | quiet_step (fail)))
  refine wpQuiet_nil ?_
  intro w4 hb
  have HG4 := Lib.hid (HG3.out.next hb)
  clear hb HG3
  clear s0 s1 s2 m0 m1 m2 n0 n1 n2 z0 z1 z2 z3; obtain ⟨⟨⟨s0, s1⟩, s2⟩, ⟨m0, m1, m2⟩, ⟨n0, n1, n2⟩, ⟨z0, z1, z2, z3⟩⟩ := HG4.out.facts; dsimp only at m0 m1 m2 n0 n1 n2 z2 z3
  go_wp2
  have hn := HNN.out
  obtain ⟨bb, bo, bx, bk⟩ := seps_at (HRR.out _ HG4.out).seps (show 0 < R.seps.length by omega)
  rw [← sepAt_get (show 0 < R.seps.length by omega), HRK.out] at bk
  have bb4 : bb < w4.heap.size := World.block_lt_of_cell? _ _ bk
  simp only [Nat.add_zero] at bk
  rw [bx, hn] at n1; clear hn
  refine wp_region_grow (by kernel_rfl) (by kernel_rfl) ?_
  repeat (any_goals (first | go_big_quiet_step (fail) | quiet_step (fail)))
  refine wpQuiet_nil ?_
  intro w5 hb
  have HG5 := Lib.hid (HG4.out.next hb)
  clear hb HG4
  clear s0 s1 s2 m0 m1 m2 n0 n1 n2 z0 z1 z2 z3; obtain ⟨⟨⟨s0, s1⟩, s2⟩, ⟨m0, m1, m2⟩, ⟨n0, n1, n2⟩, ⟨z0, z1, z2, z3⟩⟩ := HG5.out.facts; dsimp only at m0 m1 m2 n0 n1 n2 z2 z3
  clear bk bb4
  have hg := join_row HG5.out.bl
  go_wp2_with (first
    | (refine wpList_store_row rfl 29 (.tmp 4) (.tmp 143) rfl (w.heap.size + 1 + 1) zero3 rfl rfl 29 _ hg info29' rfl (sl3_one _ _ _ _ _ _ _ _ _) ?_))
  refine bodyPost_ret (results_ct rfl _ _ (w.heap.size + 1 + 1) 29 zero3 (0, 0) _ rfl (setRow_block _ _ _ _ _ _ hg) Try.underlying29 rfl info29') rfl ?_
  exact join_err w _ pg wd L s R 81 HE.out (by decide) (below_setRow (join_below HG5.out.bl) (by omega) _)


theorem join_branch_b7 (pg wd : Int) (x : VH) (L : NodeD) (s : ByteArray) (y : VH) (R : NodeD) (w : World) (hL : RdN w x.A0 x.c0 x.A1 x.c1 x.A2 x.c2 L) (hR : RdN w y.A0 y.c0 y.A1 y.c1 y.A2 y.c2 R) (hsm : s.size ≤ 140737488355328)
    (hr : right pg wd = true) (h1 : branchB pg wd L = true) (h2 : branchB pg wd R = true) (hnl : leafB pg wd L = false) (k1 : (s.toList == []) = false) (k2 : decide ((s.size : Int) ≤ pg / 16) = true) (m : Nat) (hm : L.seps.length = m + 1) (lk : ByteArray) (hlk : sepAt L.seps m = lk) (ho : Op.bytesLess lk.toList s.toList = true) (n : Nat) (hn : R.seps.length = n + 1) (rk : ByteArray) (hrk : sepAt R.seps 0 = rk) (hq : Op.bytesLess rk.toList s.toList = false) (hq2 : (rk.toList == s.toList) = true) (hE : joinE pg wd L s R = 81) :
    Calls Try.prog 89 #[vF pg wd, vH x L s y R] w fun e w' => JoinPost pg wd L s R w e w' := by
  obtain ⟨⟨h0', h1'⟩, _, _⟩ := right_spec hr
  have h0 : 0 ≤ pg := by omega
  have HRI := Lib.hid hr
  have HL := Lib.hid hL
  have HRD := Lib.hid hR
  have HB1 := Lib.hid h1
  have HB2 := Lib.hid h2
  have hlp := hL.hs
  have hrp := hR.hs
  have HSM : Hid (s.size ≤ 140737488355328) := Lib.hid hsm
  have HNL := Lib.hid hnl
  clear hnl hr h1 h2 hL hR h0'
  have h1 := h1'
  have HE := Lib.hid hE
  clear hE
  have HM := Lib.hid hm
  have HLK := Lib.hid hlk
  clear hm hlk
  have HNN := Lib.hid hn
  have HRK := Lib.hid hrk
  clear hn hrk
  go_enter Try.func89, Try.ntmps89
  go_wp2_with (first
    | (go_at_call 61; refine (frame_v pg wd _ _ HRI.out).mono ?_; rintro e w1 ⟨rfl, hb⟩; have hB1 := join_first hb; clear hb))
  refine region_mid (α := Nat × Nat) (fun X a => ((((((a.put (some 15) (.pointer (some ⟨w.heap.size + 1, 0, none⟩))).put (some 16) (vN x.A0 x.c0 x.A1 x.c1 x.A2 x.c2 L)).put (some 17) (.pointer (some ⟨w.heap.size + 1, 4, none⟩))).put (some 18) (vN y.A0 y.c0 y.A1 y.c1 y.A2 y.c2 R)).put (some 6) (.pointer (some ⟨X.1, 0, none⟩))).put (some 7) (.pointer (some ⟨X.2, 0, none⟩)))) (fun X W => JoinG w pg wd x L s y R X W) ?region ?rest
  case region =>
    have HF := Lib.hid (fun W (h : Below (w.heap.size + 1 + 1 + 1) (joinW w pg wd x L s y R) W) => join_boxes h)
    refine wp_region_tree (S := Below (w.heap.size + 1 + 1 + 1) (joinW w pg wd x L s y R)) (.take 0 (.take 1 (.take 2 (.take 3 (.two 4 5 (.run 5 (.run 6 (.run 7 (.done)))) (.run 4 (.run 6 (.run 7 (.done)))))))))
      (by kernel_rfl) (by kernel_rfl) (by kernel_rfl) (by rintro c a d v W ⟨X, h, _⟩; cases h) hB1.drew ?_
    repeat (apply tree_take; (exact rfl); rfl; (intro W hW; obtain ⟨⟨q0, q1⟩, q2, q3, q4, q5, q6, q7, q8⟩ := HF.out W hW; go_simp; (try with_reducible rfl)); simp only [Act.put, List.setIfInBounds_toArray, List.set_cons_zero, List.set_cons_succ])
    have hlo : w.heap.size + 1 + 1 + 1 ≤ w1.drew.heap.size := join_size hB1.drew
    have h1 := hB1.drew.alloc hlo (.cells zero3 29)
    have h2 := h1.alloc (by rw [World.size_alloc]; omega) (.cells zero3 29)
    have r1 : ((w1.drew.alloc (.cells zero3 29)).alloc (.cells zero3 29)).heap[w1.drew.heap.size]? = some (.cells zero3 29 (0, 0)) := (Below.heap_alloc _ _ _ (by simp)).trans (heap_alloc_new _ _)
    have r2 : ((w1.drew.alloc (.cells zero3 29)).alloc (.cells zero3 29)).heap[w1.drew.heap.size + 1]? = some (.cells zero3 29 (0, 0)) := alloc2_at _ _ _
    refine tree_two ?_ ?_
    ·
      apply tree_run; (exact rfl); rfl; intro K hK; go_simp
      refine hK.out _ _ h1 (fun _ => ?_)
      clear hK K
      try simp only [Act.put, List.setIfInBounds_toArray, List.set_cons_zero, List.set_cons_succ]
      apply tree_run; (exact rfl); rfl; intro K hK; go_simp
      refine hK.out _ _ h2 (fun _ => ?_)
      clear hK K
      try simp only [Act.put, List.setIfInBounds_toArray, List.set_cons_zero, List.set_cons_succ]
      have hG := joinG_store (w := w) (pg := pg) (wd := wd) (x := x) (y := y) (L := L) (R := R) (s := s) h2 r1 r2 (by omega) (by omega) (by omega)
      apply tree_run; (exact rfl); rfl; intro K hK
      refine wp_store_row 29 (.tmp 6) (.tmp 16) rfl (w1.drew.heap.size) (node3 x L) rfl rfl 29 zero3 r1 info29' rfl (sl3_one _ _ _ _ _ _ _ _ _) ?_
      refine hK.out _ _ (below_setRow h2 (by omega) _) (fun _ => ?_)
      clear hK K
      try simp only [Act.put]
      apply tree_run; (exact rfl); rfl; intro K hK
      refine wp_store_row 29 (.tmp 7) (.tmp 18) rfl (w1.drew.heap.size + 1) (node3 y R) rfl rfl 29 zero3 ((setRow_other _ _ _ _ (by omega)).trans r2) info29' rfl (sl3_one _ _ _ _ _ _ _ _ _) ?_
      refine hK.out _ _ hG.bl (fun _ => ?_)
      clear hK K
      try simp only [Act.put]
      exact tree_done ⟨(w1.drew.heap.size, w1.drew.heap.size + 1), rfl, rfl, hG⟩
    ·
      apply tree_run; (exact rfl); rfl; intro K hK; go_simp
      refine hK.out _ _ h1 (fun _ => ?_)
      clear hK K
      try simp only [Act.put, List.setIfInBounds_toArray, List.set_cons_zero, List.set_cons_succ]
      apply tree_run; (exact rfl); rfl; intro K hK; go_simp
      refine hK.out _ _ h2 (fun _ => ?_)
      clear hK K
      try simp only [Act.put, List.setIfInBounds_toArray, List.set_cons_zero, List.set_cons_succ]
      have hG := joinG_store (w := w) (pg := pg) (wd := wd) (x := x) (y := y) (L := L) (R := R) (s := s) h2 r2 r1 (by omega) (by omega) (by omega)
      apply tree_run; (exact rfl); rfl; intro K hK
      refine wp_store_row 29 (.tmp 6) (.tmp 16) rfl (w1.drew.heap.size + 1) (node3 x L) rfl rfl 29 zero3 r2 info29' rfl (sl3_one _ _ _ _ _ _ _ _ _) ?_
      refine hK.out _ _ (below_setRow h2 (by omega) _) (fun _ => ?_)
      clear hK K
      try simp only [Act.put]
      apply tree_run; (exact rfl); rfl; intro K hK
      refine wp_store_row 29 (.tmp 7) (.tmp 18) rfl (w1.drew.heap.size) (node3 y R) rfl rfl 29 zero3 ((setRow_other _ _ _ _ (by omega)).trans r1) info29' rfl (sl3_one _ _ _ _ _ _ _ _ _) ?_
      refine hK.out _ _ hG.bl (fun _ => ?_)
      clear hK K
      try simp only [Act.put]
      exact tree_done ⟨(w1.drew.heap.size + 1, w1.drew.heap.size), rfl, rfl, hG⟩
  case rest =>
  rintro ⟨g1, g2⟩ W hG
  have HG0 := Lib.hid hG
  have HLR := Lib.hid (fun W (h : JoinG w pg wd x L s y R (g1, g2) W) => HL.out.below (join_below h.bl))
  have HRR := Lib.hid (fun W (h : JoinG w pg wd x L s y R (g1, g2) W) => HRD.out.below (join_below h.bl))
  clear hG
  obtain ⟨⟨⟨s0, s1⟩, s2⟩, ⟨m0, m1, m2⟩, ⟨n0, n1, n2⟩, ⟨z0, z1, z2, z3⟩⟩ := HG0.out.facts
  simp only [Act.put, List.setIfInBounds_toArray, List.set_cons_zero, List.set_cons_succ]
  dsimp only at m0 m1 m2 n0 n1 n2 z2 z3
  go_wp2_with (first
    | (go_at_call 62; go_must (refine (leaf_v pg wd _ _ _ _ _ _ L _ (HLR.out _ HG0.out) _ HNL.out).mono ?_; rintro e w2 ⟨rfl, hb2⟩; have HGa := Lib.hid (HG0.out.next hb2); clear hb2 HG0 HNL; clear s0 s1 s2 m0 m1 m2 n0 n1 n2 z0 z1 z2 z3; obtain ⟨⟨⟨s0, s1⟩, s2⟩, ⟨m0, m1, m2⟩, ⟨n0, n1, n2⟩, ⟨z0, z1, z2, z3⟩⟩ := HGa.out.facts; dsimp only at m0 m1 m2 n0 n1 n2 z2 z3))
    | (go_at_call 84; skip; (refine (branch_v pg wd _ _ _ _ _ _ L _ (HLR.out _ HGa.out) _ HB1.out).mono ?_; rintro e w2 ⟨rfl, hb2⟩; have HG1 := Lib.hid (HGa.out.next hb2); clear hb2 HGa HB1; clear s0 s1 s2 m0 m1 m2 n0 n1 n2 z0 z1 z2 z3; obtain ⟨⟨⟨s0, s1⟩, s2⟩, ⟨m0, m1, m2⟩, ⟨n0, n1, n2⟩, ⟨z0, z1, z2, z3⟩⟩ := HG1.out.facts; dsimp only at m0 m1 m2 n0 n1 n2 z2 z3))
    | (go_at_call 84; go_must (refine (branch_v pg wd _ _ _ _ _ _ R _ (HRR.out _ HG1.out) _ HB2.out).mono ?_; rintro e w3 ⟨rfl, hb3⟩; have HG2 := Lib.hid (HG1.out.next hb3); clear hb3 HG1 HB2; clear s0 s1 s2 m0 m1 m2 n0 n1 n2 z0 z1 z2 z3; obtain ⟨⟨⟨s0, s1⟩, s2⟩, ⟨m0, m1, m2⟩, ⟨n0, n1, n2⟩, ⟨z0, z1, z2, z3⟩⟩ := HG2.out.facts; dsimp only at m0 m1 m2 n0 n1 n2 z2 z3)))
  refine wp_region_grow (by kernel_rfl) (by kernel_rfl) ?_
  repeat (any_goals (first | go_big_quiet_step ((go_at_call 63; exact quiet_below (maxKey_c pg wd _ h0 h1))) | quiet_step ((go_at_call 63; exact quiet_below (maxKey_c pg wd _ h0 h1)))))
  refine wpQuiet_nil ?_
  intro w3 hb
  have HG3 := Lib.hid (HG2.out.next hb)
  clear hb HG2
  clear s0 s1 s2 m0 m1 m2 n0 n1 n2 z0 z1 z2 z3; obtain ⟨⟨⟨s0, s1⟩, s2⟩, ⟨m0, m1, m2⟩, ⟨n0, n1, n2⟩, ⟨z0, z1, z2, z3⟩⟩ := HG3.out.facts; dsimp only at m0 m1 m2 n0 n1 n2 z2 z3
  go_wp2
  have hm := HM.out
  obtain ⟨ab, ao, ax, ak⟩ := seps_at (HLR.out _ HG3.out).seps (show m < L.seps.length by omega)
  rw [← sepAt_get (show m < L.seps.length by omega), HLK.out] at ak
  have hm0 : ((m : Int) + 1 == 0) = false := by rw [beq_eq_false_iff_ne]; omega
  have hmb : m ≤ 140737488355328 := by omega
  have ab3 : ab < w3.heap.size := World.block_lt_of_cell? _ _ ak
  rw [ax, hm] at m1; clear hm
  refine wp_region_grow (by kernel_rfl) (by kernel_rfl) ?_
  repeat (any_goals (first | go_big_quiet_step (fail) | quiet_step (fail)))
  refine wpQuiet_nil ?_
  intro w4 hb
  have HG4 := Lib.hid (HG3.out.next hb)
  clear hb HG3
  clear s0 s1 s2 m0 m1 m2 n0 n1 n2 z0 z1 z2 z3; obtain ⟨⟨⟨s0, s1⟩, s2⟩, ⟨m0, m1, m2⟩, ⟨n0, n1, n2⟩, ⟨z0, z1, z2, z3⟩⟩ := HG4.out.facts; dsimp only at m0 m1 m2 n0 n1 n2 z2 z3
  go_wp2
  clear ak ab3
  have hn := HNN.out
  obtain ⟨bb, bo, bx, bk⟩ := seps_at (HRR.out _ HG4.out).seps (show 0 < R.seps.length by omega)
  rw [← sepAt_get (show 0 < R.seps.length by omega), HRK.out] at bk
  have bb4 : bb < w4.heap.size := World.block_lt_of_cell? _ _ bk
  simp only [Nat.add_zero] at bk
  rw [bx, hn] at n1; clear hn
  refine wp_region_grow (by kernel_rfl) (by kernel_rfl) ?_
  repeat (any_goals (first | go_big_quiet_step (fail) | quiet_step (fail)))
  refine wpQuiet_nil ?_
  intro w5 hb
  have HG5 := Lib.hid (HG4.out.next hb)
  clear hb HG4
  clear s0 s1 s2 m0 m1 m2 n0 n1 n2 z0 z1 z2 z3; obtain ⟨⟨⟨s0, s1⟩, s2⟩, ⟨m0, m1, m2⟩, ⟨n0, n1, n2⟩, ⟨z0, z1, z2, z3⟩⟩ := HG5.out.facts; dsimp only at m0 m1 m2 n0 n1 n2 z2 z3
  clear bk bb4
  have hg := join_row HG5.out.bl
  go_wp2_with (first
    | (refine wpList_store_row rfl 29 (.tmp 4) (.tmp 143) rfl (w.heap.size + 1 + 1) zero3 rfl rfl 29 _ hg info29' rfl (sl3_one _ _ _ _ _ _ _ _ _) ?_))
  refine bodyPost_ret (results_ct rfl _ _ (w.heap.size + 1 + 1) 29 zero3 (0, 0) _ rfl (setRow_block _ _ _ _ _ _ hg) Try.underlying29 rfl info29') rfl ?_
  exact join_err w _ pg wd L s R 81 HE.out (by decide) (below_setRow (join_below HG5.out.bl) (by omega) _)


theorem join_branch_b5 (pg wd : Int) (x : VH) (L : NodeD) (s : ByteArray) (y : VH) (R : NodeD) (w : World) (hL : RdN w x.A0 x.c0 x.A1 x.c1 x.A2 x.c2 L) (hR : RdN w y.A0 y.c0 y.A1 y.c1 y.A2 y.c2 R) (hsm : s.size ≤ 140737488355328)
    (hr : right pg wd = true) (h1 : branchB pg wd L = true) (h2 : branchB pg wd R = true) (hnl : leafB pg wd L = false) (k1 : (s.toList == []) = false) (k2 : decide ((s.size : Int) ≤ pg / 16) = true) (m : Nat) (hm : L.seps.length = m + 1) (lk : ByteArray) (hlk : sepAt L.seps m = lk) (ho : Op.bytesLess lk.toList s.toList = true) (n : Nat) (hn : R.seps.length = n + 1) (rk : ByteArray) (hrk : sepAt R.seps 0 = rk) (hq : Op.bytesLess rk.toList s.toList = true) (hE : joinE pg wd L s R = 81) :
    Calls Try.prog 89 #[vF pg wd, vH x L s y R] w fun e w' => JoinPost pg wd L s R w e w' := by
  obtain ⟨⟨h0', h1'⟩, _, _⟩ := right_spec hr
  have h0 : 0 ≤ pg := by omega
  have HRI := Lib.hid hr
  have HL := Lib.hid hL
  have HRD := Lib.hid hR
  have HB1 := Lib.hid h1
  have HB2 := Lib.hid h2
  have hlp := hL.hs
  have hrp := hR.hs
  have HSM : Hid (s.size ≤ 140737488355328) := Lib.hid hsm
  have HNL := Lib.hid hnl
  clear hnl hr h1 h2 hL hR h0'
  have h1 := h1'
  have HE := Lib.hid hE
  clear hE
  have HM := Lib.hid hm
  have HLK := Lib.hid hlk
  clear hm hlk
  have HNN := Lib.hid hn
  have HRK := Lib.hid hrk
  clear hn hrk
  go_enter Try.func89, Try.ntmps89
  go_wp2_with (first
    | (go_at_call 61; refine (frame_v pg wd _ _ HRI.out).mono ?_; rintro e w1 ⟨rfl, hb⟩; have hB1 := join_first hb; clear hb))
  refine region_mid (α := Nat × Nat) (fun X a => ((((((a.put (some 15) (.pointer (some ⟨w.heap.size + 1, 0, none⟩))).put (some 16) (vN x.A0 x.c0 x.A1 x.c1 x.A2 x.c2 L)).put (some 17) (.pointer (some ⟨w.heap.size + 1, 4, none⟩))).put (some 18) (vN y.A0 y.c0 y.A1 y.c1 y.A2 y.c2 R)).put (some 6) (.pointer (some ⟨X.1, 0, none⟩))).put (some 7) (.pointer (some ⟨X.2, 0, none⟩)))) (fun X W => JoinG w pg wd x L s y R X W) ?region ?rest
  case region =>
    have HF := Lib.hid (fun W (h : Below (w.heap.size + 1 + 1 + 1) (joinW w pg wd x L s y R) W) => join_boxes h)
    refine wp_region_tree (S := Below (w.heap.size + 1 + 1 + 1) (joinW w pg wd x L s y R)) (.take 0 (.take 1 (.take 2 (.take 3 (.two 4 5 (.run 5 (.run 6 (.run 7 (.done)))) (.run 4 (.run 6 (.run 7 (.done)))))))))
      (by kernel_rfl) (by kernel_rfl) (by kernel_rfl) (by rintro c a d v W ⟨X, h, _⟩; cases h) hB1.drew ?_
    repeat (apply tree_take; (exact rfl); rfl; (intro W hW; obtain ⟨⟨q0, q1⟩, q2, q3, q4, q5, q6, q7, q8⟩ := HF.out W hW; go_simp; (try with_reducible rfl)); simp only [Act.put, List.setIfInBounds_toArray, List.set_cons_zero, List.set_cons_succ])
    have hlo : w.heap.size + 1 + 1 + 1 ≤ w1.drew.heap.size := join_size hB1.drew
    have h1 := hB1.drew.alloc hlo (.cells zero3 29)
    have h2 := h1.alloc (by rw [World.size_alloc]; omega) (.cells zero3 29)
    have r1 : ((w1.drew.alloc (.cells zero3 29)).alloc (.cells zero3 29)).heap[w1.drew.heap.size]? = some (.cells zero3 29 (0, 0)) := (Below.heap_alloc _ _ _ (by simp)).trans (heap_alloc_new _ _)
    have r2 : ((w1.drew.alloc (.cells zero3 29)).alloc (.cells zero3 29)).heap[w1.drew.heap.size + 1]? = some (.cells zero3 29 (0, 0)) := alloc2_at _ _ _
    refine tree_two ?_ ?_
    ·
      apply tree_run; (exact rfl); rfl; intro K hK; go_simp
      refine hK.out _ _ h1 (fun _ => ?_)
      clear hK K
      try simp only [Act.put, List.setIfInBounds_toArray, List.set_cons_zero, List.set_cons_succ]
      apply tree_run; (exact rfl); rfl; intro K hK; go_simp
      refine hK.out _ _ h2 (fun _ => ?_)
      clear hK K
      try simp only [Act.put, List.setIfInBounds_toArray, List.set_cons_zero, List.set_cons_succ]
      have hG := joinG_store (w := w) (pg := pg) (wd := wd) (x := x) (y := y) (L := L) (R := R) (s := s) h2 r1 r2 (by omega) (by omega) (by omega)
      apply tree_run; (exact rfl); rfl; intro K hK
      refine wp_store_row 29 (.tmp 6) (.tmp 16) rfl (w1.drew.heap.size) (node3 x L) rfl rfl 29 zero3 r1 info29' rfl (sl3_one _ _ _ _ _ _ _ _ _) ?_
      refine hK.out _ _ (below_setRow h2 (by omega) _) (fun _ => ?_)
      clear hK K
      try simp only [Act.put]
      apply tree_run; (exact rfl); rfl; intro K hK
      refine wp_store_row 29 (.tmp 7) (.tmp 18) rfl (w1.drew.heap.size + 1) (node3 y R) rfl rfl 29 zero3 ((setRow_other _ _ _ _ (by omega)).trans r2) info29' rfl (sl3_one _ _ _ _ _ _ _ _ _) ?_
      refine hK.out _ _ hG.bl (fun _ => ?_)
      clear hK K
      try simp only [Act.put]
      exact tree_done ⟨(w1.drew.heap.size, w1.drew.heap.size + 1), rfl, rfl, hG⟩
    ·
      apply tree_run; (exact rfl); rfl; intro K hK; go_simp
      refine hK.out _ _ h1 (fun _ => ?_)
      clear hK K
      try simp only [Act.put, List.setIfInBounds_toArray, List.set_cons_zero, List.set_cons_succ]
      apply tree_run; (exact rfl); rfl; intro K hK; go_simp
      refine hK.out _ _ h2 (fun _ => ?_)
      clear hK K
      try simp only [Act.put, List.setIfInBounds_toArray, List.set_cons_zero, List.set_cons_succ]
      have hG := joinG_store (w := w) (pg := pg) (wd := wd) (x := x) (y := y) (L := L) (R := R) (s := s) h2 r2 r1 (by omega) (by omega) (by omega)
      apply tree_run; (exact rfl); rfl; intro K hK
      refine wp_store_row 29 (.tmp 6) (.tmp 16) rfl (w1.drew.heap.size + 1) (node3 x L) rfl rfl 29 zero3 r2 info29' rfl (sl3_one _ _ _ _ _ _ _ _ _) ?_
      refine hK.out _ _ (below_setRow h2 (by omega) _) (fun _ => ?_)
      clear hK K
      try simp only [Act.put]
      apply tree_run; (exact rfl); rfl; intro K hK
      refine wp_store_row 29 (.tmp 7) (.tmp 18) rfl (w1.drew.heap.size) (node3 y R) rfl rfl 29 zero3 ((setRow_other _ _ _ _ (by omega)).trans r1) info29' rfl (sl3_one _ _ _ _ _ _ _ _ _) ?_
      refine hK.out _ _ hG.bl (fun _ => ?_)
      clear hK K
      try simp only [Act.put]
      exact tree_done ⟨(w1.drew.heap.size + 1, w1.drew.heap.size), rfl, rfl, hG⟩
  case rest =>
  rintro ⟨g1, g2⟩ W hG
  have HG0 := Lib.hid hG
  have HLR := Lib.hid (fun W (h : JoinG w pg wd x L s y R (g1, g2) W) => HL.out.below (join_below h.bl))
  have HRR := Lib.hid (fun W (h : JoinG w pg wd x L s y R (g1, g2) W) => HRD.out.below (join_below h.bl))
  clear hG
  obtain ⟨⟨⟨s0, s1⟩, s2⟩, ⟨m0, m1, m2⟩, ⟨n0, n1, n2⟩, ⟨z0, z1, z2, z3⟩⟩ := HG0.out.facts
  simp only [Act.put, List.setIfInBounds_toArray, List.set_cons_zero, List.set_cons_succ]
  dsimp only at m0 m1 m2 n0 n1 n2 z2 z3
  go_wp2_with (first
    | (go_at_call 62; go_must (refine (leaf_v pg wd _ _ _ _ _ _ L _ (HLR.out _ HG0.out) _ HNL.out).mono ?_; rintro e w2 ⟨rfl, hb2⟩; have HGa := Lib.hid (HG0.out.next hb2); clear hb2 HG0 HNL; clear s0 s1 s2 m0 m1 m2 n0 n1 n2 z0 z1 z2 z3; obtain ⟨⟨⟨s0, s1⟩, s2⟩, ⟨m0, m1, m2⟩, ⟨n0, n1, n2⟩, ⟨z0, z1, z2, z3⟩⟩ := HGa.out.facts; dsimp only at m0 m1 m2 n0 n1 n2 z2 z3))
    | (go_at_call 84; skip; (refine (branch_v pg wd _ _ _ _ _ _ L _ (HLR.out _ HGa.out) _ HB1.out).mono ?_; rintro e w2 ⟨rfl, hb2⟩; have HG1 := Lib.hid (HGa.out.next hb2); clear hb2 HGa HB1; clear s0 s1 s2 m0 m1 m2 n0 n1 n2 z0 z1 z2 z3; obtain ⟨⟨⟨s0, s1⟩, s2⟩, ⟨m0, m1, m2⟩, ⟨n0, n1, n2⟩, ⟨z0, z1, z2, z3⟩⟩ := HG1.out.facts; dsimp only at m0 m1 m2 n0 n1 n2 z2 z3))
    | (go_at_call 84; go_must (refine (branch_v pg wd _ _ _ _ _ _ R _ (HRR.out _ HG1.out) _ HB2.out).mono ?_; rintro e w3 ⟨rfl, hb3⟩; have HG2 := Lib.hid (HG1.out.next hb3); clear hb3 HG1 HB2; clear s0 s1 s2 m0 m1 m2 n0 n1 n2 z0 z1 z2 z3; obtain ⟨⟨⟨s0, s1⟩, s2⟩, ⟨m0, m1, m2⟩, ⟨n0, n1, n2⟩, ⟨z0, z1, z2, z3⟩⟩ := HG2.out.facts; dsimp only at m0 m1 m2 n0 n1 n2 z2 z3)))
  refine wp_region_grow (by kernel_rfl) (by kernel_rfl) ?_
  repeat (any_goals (first | go_big_quiet_step ((go_at_call 63; exact quiet_below (maxKey_c pg wd _ h0 h1))) | quiet_step ((go_at_call 63; exact quiet_below (maxKey_c pg wd _ h0 h1)))))
  refine wpQuiet_nil ?_
  intro w3 hb
  have HG3 := Lib.hid (HG2.out.next hb)
  clear hb HG2
  clear s0 s1 s2 m0 m1 m2 n0 n1 n2 z0 z1 z2 z3; obtain ⟨⟨⟨s0, s1⟩, s2⟩, ⟨m0, m1, m2⟩, ⟨n0, n1, n2⟩, ⟨z0, z1, z2, z3⟩⟩ := HG3.out.facts; dsimp only at m0 m1 m2 n0 n1 n2 z2 z3
  go_wp2
  have hm := HM.out
  obtain ⟨ab, ao, ax, ak⟩ := seps_at (HLR.out _ HG3.out).seps (show m < L.seps.length by omega)
  rw [← sepAt_get (show m < L.seps.length by omega), HLK.out] at ak
  have hm0 : ((m : Int) + 1 == 0) = false := by rw [beq_eq_false_iff_ne]; omega
  have hmb : m ≤ 140737488355328 := by omega
  have ab3 : ab < w3.heap.size := World.block_lt_of_cell? _ _ ak
  rw [ax, hm] at m1; clear hm
  refine wp_region_grow (by kernel_rfl) (by kernel_rfl) ?_
  repeat (any_goals (first | go_big_quiet_step (fail) | quiet_step (fail)))
  refine wpQuiet_nil ?_
  intro w4 hb
  have HG4 := Lib.hid (HG3.out.next hb)
  clear hb HG3
  clear s0 s1 s2 m0 m1 m2 n0 n1 n2 z0 z1 z2 z3; obtain ⟨⟨⟨s0, s1⟩, s2⟩, ⟨m0, m1, m2⟩, ⟨n0, n1, n2⟩, ⟨z0, z1, z2, z3⟩⟩ := HG4.out.facts; dsimp only at m0 m1 m2 n0 n1 n2 z2 z3
  go_wp2
  clear ak ab3
  have hn := HNN.out
  obtain ⟨bb, bo, bx, bk⟩ := seps_at (HRR.out _ HG4.out).seps (show 0 < R.seps.length by omega)
  rw [← sepAt_get (show 0 < R.seps.length by omega), HRK.out] at bk
  have bb4 : bb < w4.heap.size := World.block_lt_of_cell? _ _ bk
  simp only [Nat.add_zero] at bk
  rw [bx, hn] at n1; clear hn
  refine wp_region_grow (by kernel_rfl) (by kernel_rfl) ?_
  repeat (any_goals (first | go_big_quiet_step (fail) | quiet_step (fail)))
  refine wpQuiet_nil ?_
  intro w5 hb
  have HG5 := Lib.hid (HG4.out.next hb)
  clear hb HG4
  clear s0 s1 s2 m0 m1 m2 n0 n1 n2 z0 z1 z2 z3; obtain ⟨⟨⟨s0, s1⟩, s2⟩, ⟨m0, m1, m2⟩, ⟨n0, n1, n2⟩, ⟨z0, z1, z2, z3⟩⟩ := HG5.out.facts; dsimp only at m0 m1 m2 n0 n1 n2 z2 z3
  clear bk bb4
  have hg := join_row HG5.out.bl
  go_wp2_with (first
    | (refine wpList_store_row rfl 29 (.tmp 4) (.tmp 143) rfl (w.heap.size + 1 + 1) zero3 rfl rfl 29 _ hg info29' rfl (sl3_one _ _ _ _ _ _ _ _ _) ?_))
  refine bodyPost_ret (results_ct rfl _ _ (w.heap.size + 1 + 1) 29 zero3 (0, 0) _ rfl (setRow_block _ _ _ _ _ _ hg) Try.underlying29 rfl info29') rfl ?_
  exact join_err w _ pg wd L s R 81 HE.out (by decide) (below_setRow (join_below HG5.out.bl) (by omega) _)


end Go.Proofs.Ytajkoeodabmgeaa
end
