import Derived.Test.YtajkoeodabmgeaaZ12
namespace Go.Proofs.Ytajkoeodabmgeaa
open Go.RowKit
set_option maxHeartbeats 4000000
set_option maxRecDepth 100000
attribute [local go_sem] grow_cell grow_frozen grow_size

theorem join_fin_branch (w w1 : World) (pg wd : Int) (L R : NodeD) (s : ByteArray) (hE : joinE pg wd L s R = 0) (hk : L.kids.length ≠ 0) (SS : List ByteArray) (hSS : L.seps ++ [s] ++ R.seps = SS) (KK : List KidD) (hKK : L.kids ++ R.kids = KK) (A B : Option Addr) (c d : Nat) (hb : Below w.heap.size w w1)
    (h : OwN w1 w.heap.size w1.heap.size none 0 B d A c ⟨[], SS, KK⟩) :
    JoinPost pg wd L s R w (Ending.returned (.tuple #[.agg #[.slice none 0 0, .slice B SS.length d, .slice A KK.length c], .int .i64 0])) w1 := by
  have hR : joinR pg wd L s R = ⟨[], SS, KK⟩ := by rw [joinR, if_pos hE, joinN, if_neg hk, hSS, hKK]
  refine ⟨⟨none, 0, B, d, A, c⟩, ?_, ?_, hb⟩
  · rw [hR, hE]; rfl
  · rw [hR]; exact h
theorem sep_row (w : World) (s : ByteArray) : Rd (w.alloc (.cells #[.string s] 9)) 1 (some ⟨w.heap.size, 0, none⟩) [s].length (scells [s]) :=
  ⟨by simp [scells], fun _ => ⟨w.heap.size, 0, rfl, fun j u hu => by
    rw [Nat.zero_add, cell_of_row _ _ j _ _ _ (heap_alloc_new w (.cells #[.string s] 9)), ← hu]
    simp [scells]⟩⟩

theorem join_branch_g1 (pg wd : Int) (x : VH) (L : NodeD) (s : ByteArray) (y : VH) (R : NodeD) (w : World) (hL : RdN w x.A0 x.c0 x.A1 x.c1 x.A2 x.c2 L) (hR : RdN w y.A0 y.c0 y.A1 y.c1 y.A2 y.c2 R) (hsm : s.size ≤ 140737488355328)
    (hr : right pg wd = true) (h1 : branchB pg wd L = true) (h2 : branchB pg wd R = true) (hnl : leafB pg wd L = false) (k1 : (s.toList == []) = false) (k2 : decide ((s.size : Int) ≤ pg / 16) = true) (hm : L.seps.length = 0) (hn : R.seps.length = 0) (hE : joinE pg wd L s R = 0) (hroom : (L.seps.length + R.seps.length + 1) * 16 ≤ 140737488355328) (hroomk : (L.kids.length + R.kids.length) * 36 ≤ 140737488355328) :
    Calls Try.prog 89 #[vF pg wd, vH x L s y R] w fun e w' => JoinPost pg wd L s R w e w' := by
  obtain ⟨⟨h0', h1'⟩, _, _⟩ := right_spec hr
  have h0 : 0 ≤ pg := by omega
  have HRI := Lib.hid hr
  have HL := Lib.hid hL
  have HRD := Lib.hid hR
  have HB1 := Lib.hid h1
  have HB2 := Lib.hid h2
  have hlp := hL.hs
  have hrp := hR.hs
  have HSM : Hid (s.size ≤ 140737488355328) := Lib.hid hsm
  have HNL := Lib.hid hnl
  clear hnl hr h1 h2 hL hR h0'
  have h1 := h1'
  have HE := Lib.hid hE
  clear hE
  have HK : Hid (L.kids.length ≠ 0) := Lib.hid (by have := (of_decide_eq_true HB1.out).1; omega)
  have HRM := Lib.hid hroom
  have HRK2 := Lib.hid hroomk
  clear hroom hroomk
  obtain ⟨LS, hLS⟩ : ∃ LS, L.seps ++ [s] = LS := ⟨_, rfl⟩
  obtain ⟨SS, hSS⟩ : ∃ SS, LS ++ R.seps = SS := ⟨_, rfl⟩
  obtain ⟨KK, hKK⟩ : ∃ KK, L.kids ++ R.kids = KK := ⟨_, rfl⟩
  have HLS := Lib.hid hLS
  have HSS := Lib.hid hSS
  have HKK := Lib.hid hKK
  have HLSL : Hid (LS.length = L.seps.length + 1) := Lib.hid (by rw [← hLS]; simp)
  clear hLS hSS hKK
  have HM := Lib.hid hm
  clear hm
  have HNN := Lib.hid hn
  clear hn
  go_enter Try.func89, Try.ntmps89
  go_wp2_with (first
    | (go_at_call 61; refine (frame_v pg wd _ _ HRI.out).mono ?_; rintro e w1 ⟨rfl, hb⟩; have hB1 := join_first hb; clear hb))
  refine region_mid (α := Nat × Nat) (fun X a => ((((((a.put (some 15) (.pointer (some ⟨w.heap.size + 1, 0, none⟩))).put (some 16) (vN x.A0 x.c0 x.A1 x.c1 x.A2 x.c2 L)).put (some 17) (.pointer (some ⟨w.heap.size + 1, 4, none⟩))).put (some 18) (vN y.A0 y.c0 y.A1 y.c1 y.A2 y.c2 R)).put (some 6) (.pointer (some ⟨X.1, 0, none⟩))).put (some 7) (.pointer (some ⟨X.2, 0, none⟩)))) (fun X W => JoinG w pg wd x L s y R X W) ?region ?rest
  case region =>
    have HF := Lib.hid (fun W (h : Below (w.heap.size + 1 + 1 + 1) (joinW w pg wd x L s y R) W) => join_boxes h)
    refine wp_region_tree (S := Below (w.heap.size + 1 + 1 + 1) (joinW w pg wd x L s y R)) (.take 0 (.take 1 (.take 2 (.take 3 (.two 4 5 (.run 5 (.run 6 (.run 7 (.done)))) (.run 4 (.run 6 (.run 7 (.done)))))))))
      (by kernel_rfl) (by kernel_rfl) (by kernel_rfl) (by rintro c a d v W ⟨X, h, _⟩; cases h) hB1.drew ?_
    repeat (apply tree_take; (exact rfl); rfl; (intro W hW; obtain ⟨⟨q0, q1⟩, q2, q3, q4, q5, q6, q7, q8⟩ := HF.out W hW; go_simp; (try with_reducible rfl)); simp only [Act.put, List.setIfInBounds_toArray, List.set_cons_zero, List.set_cons_succ])
    have hlo : w.heap.size + 1 + 1 + 1 ≤ w1.drew.heap.size := join_size hB1.drew
    have h1 := hB1.drew.alloc hlo (.cells zero3 29)
    have h2 := h1.alloc (by rw [World.size_alloc]; omega) (.cells zero3 29)
    have r1 : ((w1.drew.alloc (.cells zero3 29)).alloc (.cells zero3 29)).heap[w1.drew.heap.size]? = some (.cells zero3 29 (0, 0)) := (Below.heap_alloc _ _ _ (by simp)).trans (heap_alloc_new _ _)
    have r2 : ((w1.drew.alloc (.cells zero3 29)).alloc (.cells zero3 29)).heap[w1.drew.heap.size + 1]? = some (.cells zero3 29 (0, 0)) := alloc2_at _ _ _
    refine tree_two ?_ ?_
    ·
      apply tree_run; (exact rfl); rfl; intro K hK; go_simp
      refine hK.out _ _ h1 (fun _ => ?_)
      clear hK K
      try simp only [Act.put, List.setIfInBounds_toArray, List.set_cons_zero, List.set_cons_succ]
      apply tree_run; (exact rfl); rfl; intro K hK; go_simp
      refine hK.out _ _ h2 (fun _ => ?_)
      clear hK K
      try simp only [Act.put, List.setIfInBounds_toArray, List.set_cons_zero, List.set_cons_succ]
      have hG := joinG_store (w := w) (pg := pg) (wd := wd) (x := x) (y := y) (L := L) (R := R) (s := s) h2 r1 r2 (by omega) (by omega) (by omega)
      apply tree_run; (exact rfl); rfl; intro K hK
      refine wp_store_row 29 (.tmp 6) (.tmp 16) rfl (w1.drew.heap.size) (node3 x L) rfl rfl 29 zero3 r1 info29' rfl (sl3_one _ _ _ _ _ _ _ _ _) ?_
      refine hK.out _ _ (below_setRow h2 (by omega) _) (fun _ => ?_)
      clear hK K
      try simp only [Act.put]
      apply tree_run; (exact rfl); rfl; intro K hK
      refine wp_store_row 29 (.tmp 7) (.tmp 18) rfl (w1.drew.heap.size + 1) (node3 y R) rfl rfl 29 zero3 ((setRow_other _ _ _ _ (by omega)).trans r2) info29' rfl (sl3_one _ _ _ _ _ _ _ _ _) ?_
      refine hK.out _ _ hG.bl (fun _ => ?_)
      clear hK K
      try simp only [Act.put]
      exact tree_done ⟨(w1.drew.heap.size, w1.drew.heap.size + 1), rfl, rfl, hG⟩
    ·
      apply tree_run; (exact rfl); rfl; intro K hK; go_simp
      refine hK.out _ _ h1 (fun _ => ?_)
      clear hK K
      try simp only [Act.put, List.setIfInBounds_toArray, List.set_cons_zero, List.set_cons_succ]
      apply tree_run; (exact rfl); rfl; intro K hK; go_simp
      refine hK.out _ _ h2 (fun _ => ?_)
      clear hK K
      try simp only [Act.put, List.setIfInBounds_toArray, List.set_cons_zero, List.set_cons_succ]
      have hG := joinG_store (w := w) (pg := pg) (wd := wd) (x := x) (y := y) (L := L) (R := R) (s := s) h2 r2 r1 (by omega) (by omega) (by omega)
      apply tree_run; (exact rfl); rfl; intro K hK
      refine wp_store_row 29 (.tmp 6) (.tmp 16) rfl (w1.drew.heap.size + 1) (node3 x L) rfl rfl 29 zero3 r2 info29' rfl (sl3_one _ _ _ _ _ _ _ _ _) ?_
      refine hK.out _ _ (below_setRow h2 (by omega) _) (fun _ => ?_)
      clear hK K
      try simp only [Act.put]
      apply tree_run; (exact rfl); rfl; intro K hK
      refine wp_store_row 29 (.tmp 7) (.tmp 18) rfl (w1.drew.heap.size) (node3 y R) rfl rfl 29 zero3 ((setRow_other _ _ _ _ (by omega)).trans r1) info29' rfl (sl3_one _ _ _ _ _ _ _ _ _) ?_
      refine hK.out _ _ hG.bl (fun _ => ?_)
      clear hK K
      try simp only [Act.put]
      exact tree_done ⟨(w1.drew.heap.size + 1, w1.drew.heap.size), rfl, rfl, hG⟩
  case rest =>
  rintro ⟨g1, g2⟩ W hG
  have HG0 := Lib.hid hG
  have HLR := Lib.hid (fun W (h : JoinG w pg wd x L s y R (g1, g2) W) => HL.out.below (join_below h.bl))
  have HRR := Lib.hid (fun W (h : JoinG w pg wd x L s y R (g1, g2) W) => HRD.out.below (join_below h.bl))
  clear hG
  obtain ⟨⟨⟨s0, s1⟩, s2⟩, ⟨m0, m1, m2⟩, ⟨n0, n1, n2⟩, ⟨z0, z1, z2, z3⟩⟩ := HG0.out.facts
  simp only [Act.put, List.setIfInBounds_toArray, List.set_cons_zero, List.set_cons_succ]
  dsimp only at m0 m1 m2 n0 n1 n2 z2 z3
  go_wp2_with (first
    | (go_at_call 62; go_must (refine (leaf_v pg wd _ _ _ _ _ _ L _ (HLR.out _ HG0.out) _ HNL.out).mono ?_; rintro e w2 ⟨rfl, hb2⟩; have HGa := Lib.hid (HG0.out.next hb2); clear hb2 HG0 HNL; clear s0 s1 s2 m0 m1 m2 n0 n1 n2 z0 z1 z2 z3; obtain ⟨⟨⟨s0, s1⟩, s2⟩, ⟨m0, m1, m2⟩, ⟨n0, n1, n2⟩, ⟨z0, z1, z2, z3⟩⟩ := HGa.out.facts; dsimp only at m0 m1 m2 n0 n1 n2 z2 z3))
    | (go_at_call 84; skip; (refine (branch_v pg wd _ _ _ _ _ _ L _ (HLR.out _ HGa.out) _ HB1.out).mono ?_; rintro e w2 ⟨rfl, hb2⟩; have HG1 := Lib.hid (HGa.out.next hb2); clear hb2 HGa HB1; clear s0 s1 s2 m0 m1 m2 n0 n1 n2 z0 z1 z2 z3; obtain ⟨⟨⟨s0, s1⟩, s2⟩, ⟨m0, m1, m2⟩, ⟨n0, n1, n2⟩, ⟨z0, z1, z2, z3⟩⟩ := HG1.out.facts; dsimp only at m0 m1 m2 n0 n1 n2 z2 z3))
    | (go_at_call 84; go_must (refine (branch_v pg wd _ _ _ _ _ _ R _ (HRR.out _ HG1.out) _ HB2.out).mono ?_; rintro e w3 ⟨rfl, hb3⟩; have HG2 := Lib.hid (HG1.out.next hb3); clear hb3 HG1 HB2; clear s0 s1 s2 m0 m1 m2 n0 n1 n2 z0 z1 z2 z3; obtain ⟨⟨⟨s0, s1⟩, s2⟩, ⟨m0, m1, m2⟩, ⟨n0, n1, n2⟩, ⟨z0, z1, z2, z3⟩⟩ := HG2.out.facts; dsimp only at m0 m1 m2 n0 n1 n2 z2 z3)))
  refine wp_region_grow (by kernel_rfl) (by kernel_rfl) ?_
  repeat (any_goals (first | go_big_quiet_step ((go_at_call 63; exact quiet_below (maxKey_c pg wd _ h0 h1))) | quiet_step ((go_at_call 63; exact quiet_below (maxKey_c pg wd _ h0 h1)))))
  refine wpQuiet_nil ?_
  intro w3 hb
  have HG3 := Lib.hid (HG2.out.next hb)
  clear hb HG2
  clear s0 s1 s2 m0 m1 m2 n0 n1 n2 z0 z1 z2 z3; obtain ⟨⟨⟨s0, s1⟩, s2⟩, ⟨m0, m1, m2⟩, ⟨n0, n1, n2⟩, ⟨z0, z1, z2, z3⟩⟩ := HG3.out.facts; dsimp only at m0 m1 m2 n0 n1 n2 z2 z3
  go_wp2
  rw [HM.out] at m1
  refine wp_region_grow (by kernel_rfl) (by kernel_rfl) ?_
  repeat (any_goals (first | go_big_quiet_step (fail) | quiet_step (fail)))
  refine wpQuiet_nil ?_
  intro w4 hb
  have HG4 := Lib.hid (HG3.out.next hb)
  clear hb HG3
  clear s0 s1 s2 m0 m1 m2 n0 n1 n2 z0 z1 z2 z3; obtain ⟨⟨⟨s0, s1⟩, s2⟩, ⟨m0, m1, m2⟩, ⟨n0, n1, n2⟩, ⟨z0, z1, z2, z3⟩⟩ := HG4.out.facts; dsimp only at m0 m1 m2 n0 n1 n2 z2 z3
  go_wp2
  rw [HNN.out] at n1
  refine wp_region_grow (by kernel_rfl) (by kernel_rfl) ?_
  repeat (any_goals (first | go_big_quiet_step (fail) | quiet_step (fail)))
  refine wpQuiet_nil ?_
  intro w5 hb
  have HG5 := Lib.hid (HG4.out.next hb)
  clear hb HG4
  clear s0 s1 s2 m0 m1 m2 n0 n1 n2 z0 z1 z2 z3; obtain ⟨⟨⟨s0, s1⟩, s2⟩, ⟨m0, m1, m2⟩, ⟨n0, n1, n2⟩, ⟨z0, z1, z2, z3⟩⟩ := HG5.out.facts; dsimp only at m0 m1 m2 n0 n1 n2 z2 z3
  go_wp2_with (first
    | (go_at_call 86; go_must (refine (putS_at x.A1 _ x.c1 1 L.seps [s] _ ((HLR.out _ HG5.out).seps.below ((Below.refl _ _).alloc (Nat.le_refl _) _)) (sep_row _ _) HL.out.hcs (by have := HRM.out; simp only [List.length_singleton]; omega) L.seps.length 0 _ _ rfl rfl (by omega) LS (by simpa using HLS.out)).mono ?_; rintro e w6 ⟨⟨A, c, rfl, hown⟩, hb6⟩; have HG6 := Lib.hid (HG5.out.next (below_a hb6)); have HO := Lib.hid hown; have h56 := (below_a hb6).size; have h56' := hb6.size; clear hown hb6 HG5; clear s0 s1 s2 m0 m1 m2 n0 n1 n2 z0 z1 z2 z3)))
  simp only [World.size_alloc] at h56'
  have hrows := And.intro HG6.out.rl HG6.out.rr
  dsimp only at hrows
  refine wp_region_tree (S := fun W => W.heap[g1]? = some (.cells (node3 x L) 29 (0, 0)) ∧ W.heap[g2]? = some (.cells (node3 y R) 29 (0, 0))) (.take 0 (.take 1 (.take 2 (.take 3 (.take 4 (.take 5 (.take 6 (.take 8 (.take 9 (.take 10 (.take 11 (.take 12 (.run 7 (.run 13 (.take 14 (.run 15 (.take 16 (.done)))))))))))))))))) (by kernel_rfl) (by kernel_rfl) (by kernel_rfl) (fun _ _ d _ _ h => by cases d <;> exact h) hrows ?_
  repeat (apply tree_take; (exact rfl); rfl; (intro W hW; have q0 := cell_of_row _ _ 2 _ _ _ hW.1; have q1 := cell_of_row _ _ 2 _ _ _ hW.2; have q2 := cell_of_row _ _ 1 _ _ _ hW.2; simp only [List.getElem?_toArray, List.getElem?_cons_zero, List.getElem?_cons_succ] at q0 q1 q2; go_simp; (try with_reducible rfl)); simp only [Act.put, List.setIfInBounds_toArray, List.set_cons_zero, List.set_cons_succ])
  apply tree_run; (exact rfl); rfl; intro K hK; go_simp
  refine (putK_at x.A2 y.A2 x.c2 y.c2 L.kids R.kids _ (HL.out.kids.below (join_below HG6.out.bl.drew)) (HRD.out.kids.below (join_below HG6.out.bl.drew)) HL.out.hck HRK2.out L.kids.length 0 _ _ rfl rfl (by omega) HL.out.kk KK (by simpa using HKK.out)).mono ?_
  rintro e w7 ⟨⟨B, d, rfl, hown7⟩, hb7⟩
  have HO7 := Lib.hid hown7
  clear hown7
  have hB7 := join_next HG6.out.bl.drew hb7
  have hr1 := hrows.1
  have hr2 := hrows.2
  have hgl1 := (Array.getElem?_eq_some_iff.1 hr1).1
  have hgl2 := (Array.getElem?_eq_some_iff.1 hr2).1
  have hrow7 := And.intro ((hb7.block g1 hgl1).trans hr1) ((hb7.block g2 hgl2).trans hr2)
  refine hK.out _ _ hrow7 (fun _ => ?_)
  clear hK K
  try simp only [Act.put, List.setIfInBounds_toArray, List.set_cons_zero, List.set_cons_succ]
  apply tree_run; (exact rfl); rfl; intro K hK; go_simp
  refine (putS_at A y.A1 c y.c1 LS R.seps _ ((own_rd' HO.out).2.below (Below.trans (b := w6.drew) (Below.refl w6.heap.size w6).drew hb7)) (HRD.out.seps.below (join_below hB7)) (own_rd' HO.out).1 (by rw [HLSL.out]; have := HRM.out; omega) LS.length 0 _ _ rfl rfl (by omega) SS (by simpa using HSS.out)).mono ?_
  rintro e w8 ⟨⟨C, f, rfl, hown8⟩, hb8⟩
  have HO8 := Lib.hid hown8
  clear hown8
  have hB8 := join_next hB7 hb8
  have hrow8 := And.intro ((hb8.block g1 (Nat.lt_of_lt_of_le hgl1 hb7.size)).trans hrow7.1) ((hb8.block g2 (Nat.lt_of_lt_of_le hgl2 hb7.size)).trans hrow7.2)
  refine hK.out _ _ hrow8 (fun _ => ?_)
  clear hK K
  try simp only [Act.put, List.setIfInBounds_toArray, List.set_cons_zero, List.set_cons_succ]
  repeat (apply tree_take; (exact rfl); rfl; (intro W hW; have q0 := cell_of_row _ _ 2 _ _ _ hW.1; have q1 := cell_of_row _ _ 2 _ _ _ hW.2; have q2 := cell_of_row _ _ 1 _ _ _ hW.2; simp only [List.getElem?_toArray, List.getElem?_cons_zero, List.getElem?_cons_succ] at q0 q1 q2; go_simp; (try with_reducible rfl)); simp only [Act.put, List.setIfInBounds_toArray, List.set_cons_zero, List.set_cons_succ])
  apply tree_run; (exact rfl); rfl; intro K hK
  have hg := join_row hB8
  have hl1 := HG6.out.ll
  have hl2 := HG6.out.lr
  dsimp only at hl1 hl2
  refine wp_store_row 29 (.tmp 4) (.tmp 167) rfl (w.heap.size + 1 + 1) #[.slice none 0 0, .slice C SS.length f, .slice B KK.length d] rfl rfl 29 zero3 hg info29' rfl (sl3_one _ _ _ _ _ _ _ _ _) ?_
  refine hK.out _ _ ⟨(setRow_other _ _ _ _ (by omega)).trans hrow8.1, (setRow_other _ _ _ _ (by omega)).trans hrow8.2⟩ (fun _ => ?_)
  clear hK K
  try simp only [Act.put]
  repeat (apply tree_take; (exact rfl); rfl; (intro W hW; have q0 := cell_of_row _ _ 2 _ _ _ hW.1; have q1 := cell_of_row _ _ 2 _ _ _ hW.2; have q2 := cell_of_row _ _ 1 _ _ _ hW.2; simp only [List.getElem?_toArray, List.getElem?_cons_zero, List.getElem?_cons_succ] at q0 q1 q2; go_simp; (try with_reducible rfl)); simp only [Act.put, List.setIfInBounds_toArray, List.set_cons_zero, List.set_cons_succ])
  refine tree_done ?_
  go_wp2
  refine bodyPost_ret (results_ct rfl _ _ (w.heap.size + 1 + 1) 29 #[.slice none 0 0, .slice C SS.length f, .slice B KK.length d] (0, 0) _ rfl (setRow_block _ _ _ _ _ _ hg) Try.underlying29 rfl info29') rfl ?_
  have hlenS : SS.length = L.seps.length + 1 + R.seps.length := by rw [← HSS.out, List.length_append, HLSL.out]
  have hlenK : KK.length = L.kids.length + R.kids.length := by rw [← HKK.out, List.length_append]
  have hs6 := join_size HG6.out.bl
  have hs7 : w6.heap.size ≤ w7.heap.size := hb7.size
  have hs8 := hb8.size
  have hO := OwN.branch (ownsRow_mono' (base' := w.heap.size + 1 + 1 + 1) (own_below HO7.out hb8) (show w.heap.size + 1 + 1 + 1 ≤ w6.heap.size from hs6)) (ownsRow_mono' (base' := w.heap.size + 1 + 1 + 1) HO8.out (by omega)) (Nat.le_refl _) (by rw [hlenK]; exact HRK2.out) (by rw [hlenS]; have := HRM.out; omega) (fun q hq => by rw [← HKK.out] at hq; exact (List.mem_append.1 hq).elim (HL.out.kk q) (HRD.out.kk q)) (fun q hq => by rw [← HSS.out] at hq; exact (List.mem_append.1 hq).elim (fun hq => by rw [← HLS.out] at hq; exact (List.mem_append.1 hq).elim (HL.out.sk q) (fun h => by rw [List.mem_singleton.1 h]; exact HSM.out)) (HRD.out.sk q))
  exact join_fin_branch w _ pg wd L R s HE.out HK.out SS (by rw [HLS.out, HSS.out]) KK HKK.out B C d f (below_setRow (join_below hB8) (by omega) _) ((hO.setRow' _ _ (.inl (by omega))).wide (by omega) (by simp [World.setRow]))


theorem join_branch_g2 (pg wd : Int) (x : VH) (L : NodeD) (s : ByteArray) (y : VH) (R : NodeD) (w : World) (hL : RdN w x.A0 x.c0 x.A1 x.c1 x.A2 x.c2 L) (hR : RdN w y.A0 y.c0 y.A1 y.c1 y.A2 y.c2 R) (hsm : s.size ≤ 140737488355328)
    (hr : right pg wd = true) (h1 : branchB pg wd L = true) (h2 : branchB pg wd R = true) (hnl : leafB pg wd L = false) (k1 : (s.toList == []) = false) (k2 : decide ((s.size : Int) ≤ pg / 16) = true) (hm : L.seps.length = 0) (n : Nat) (hn : R.seps.length = n + 1) (rk : ByteArray) (hrk : sepAt R.seps 0 = rk) (hq : Op.bytesLess rk.toList s.toList = false) (hq2 : (rk.toList == s.toList) = false) (hE : joinE pg wd L s R = 0) (hroom : (L.seps.length + R.seps.length + 1) * 16 ≤ 140737488355328) (hroomk : (L.kids.length + R.kids.length) * 36 ≤ 140737488355328) :
    Calls Try.prog 89 #[vF pg wd, vH x L s y R] w fun e w' => JoinPost pg wd L s R w e w' := by
  obtain ⟨⟨h0', h1'⟩, _, _⟩ := right_spec hr
  have h0 : 0 ≤ pg := by omega
  have HRI := Lib.hid hr
  have HL := Lib.hid hL
  have HRD := Lib.hid hR
  have HB1 := Lib.hid h1
  have HB2 := Lib.hid h2
  have hlp := hL.hs
  have hrp := hR.hs
  have HSM : Hid (s.size ≤ 140737488355328) := Lib.hid hsm
  have HNL := Lib.hid hnl
  clear hnl hr h1 h2 hL hR h0'
  have h1 := h1'
  have HE := Lib.hid hE
  clear hE
  have HK : Hid (L.kids.length ≠ 0) := Lib.hid (by have := (of_decide_eq_true HB1.out).1; omega)
  have HRM := Lib.hid hroom
  have HRK2 := Lib.hid hroomk
  clear hroom hroomk
  obtain ⟨LS, hLS⟩ : ∃ LS, L.seps ++ [s] = LS := ⟨_, rfl⟩
  obtain ⟨SS, hSS⟩ : ∃ SS, LS ++ R.seps = SS := ⟨_, rfl⟩
  obtain ⟨KK, hKK⟩ : ∃ KK, L.kids ++ R.kids = KK := ⟨_, rfl⟩
  have HLS := Lib.hid hLS
  have HSS := Lib.hid hSS
  have HKK := Lib.hid hKK
  have HLSL : Hid (LS.length = L.seps.length + 1) := Lib.hid (by rw [← hLS]; simp)
  clear hLS hSS hKK
  have HM := Lib.hid hm
  clear hm
  have HNN := Lib.hid hn
  have HRK := Lib.hid hrk
  clear hn hrk
  go_enter Try.func89, Try.ntmps89
  go_wp2_with (first
    | (go_at_call 61; refine (frame_v pg wd _ _ HRI.out).mono ?_; rintro e w1 ⟨rfl, hb⟩; have hB1 := join_first hb; clear hb))
  refine region_mid (α := Nat × Nat) (fun X a => ((((((a.put (some 15) (.pointer (some ⟨w.heap.size + 1, 0, none⟩))).put (some 16) (vN x.A0 x.c0 x.A1 x.c1 x.A2 x.c2 L)).put (some 17) (.pointer (some ⟨w.heap.size + 1, 4, none⟩))).put (some 18) (vN y.A0 y.c0 y.A1 y.c1 y.A2 y.c2 R)).put (some 6) (.pointer (some ⟨X.1, 0, none⟩))).put (some 7) (.pointer (some ⟨X.2, 0, none⟩)))) (fun X W => JoinG w pg wd x L s y R X W) ?region ?rest
  case region =>
    have HF := Lib.hid (fun W (h : Below (w.heap.size + 1 + 1 + 1) (joinW w pg wd x L s y R) W) => join_boxes h)
    refine wp_region_tree (S := Below (w.heap.size + 1 + 1 + 1) (joinW w pg wd x L s y R)) (.take 0 (.take 1 (.take 2 (.take 3 (.two 4 5 (.run 5 (.run 6 (.run 7 (.done)))) (.run 4 (.run 6 (.run 7 (.done)))))))))
      (by kernel_rfl) (by kernel_rfl) (by kernel_rfl) (by rintro c a d v W ⟨X, h, _⟩; cases h) hB1.drew ?_
    repeat (apply tree_take; (exact rfl); rfl; (intro W hW; obtain ⟨⟨q0, q1⟩, q2, q3, q4, q5, q6, q7, q8⟩ := HF.out W hW; go_simp; (try with_reducible rfl)); simp only [Act.put, List.setIfInBounds_toArray, List.set_cons_zero, List.set_cons_succ])
    have hlo : w.heap.size + 1 + 1 + 1 ≤ w1.drew.heap.size := join_size hB1.drew
    have h1 := hB1.drew.alloc hlo (.cells zero3 29)
    have h2 := h1.alloc (by rw [World.size_alloc]; omega) (.cells zero3 29)
    have r1 : ((w1.drew.alloc (.cells zero3 29)).alloc (.cells zero3 29)).heap[w1.drew.heap.size]? = some (.cells zero3 29 (0, 0)) := (Below.heap_alloc _ _ _ (by simp)).trans (heap_alloc_new _ _)
    have r2 : ((w1.drew.alloc (.cells zero3 29)).alloc (.cells zero3 29)).heap[w1.drew.heap.size + 1]? = some (.cells zero3 29 (0, 0)) := alloc2_at _ _ _
    refine tree_two ?_ ?_
    ·
      apply tree_run; (exact rfl); rfl; intro K hK; go_simp
      refine hK.out _ _ h1 (fun _ => ?_)
      clear hK K
      try simp only [Act.put, List.setIfInBounds_toArray, List.set_cons_zero, List.set_cons_succ]
      apply tree_run; (exact rfl); rfl; intro K hK; go_simp
      refine hK.out _ _ h2 (fun _ => ?_)
      clear hK K
      try simp only [Act.put, List.setIfInBounds_toArray, List.set_cons_zero, List.set_cons_succ]
      have hG := joinG_store (w := w) (pg := pg) (wd := wd) (x := x) (y := y) (L := L) (R := R) (s := s) h2 r1 r2 (by omega) (by omega) (by omega)
      apply tree_run; (exact rfl); rfl; intro K hK
      refine wp_store_row 29 (.tmp 6) (.tmp 16) rfl (w1.drew.heap.size) (node3 x L) rfl rfl 29 zero3 r1 info29' rfl (sl3_one _ _ _ _ _ _ _ _ _) ?_
      refine hK.out _ _ (below_setRow h2 (by omega) _) (fun _ => ?_)
      clear hK K
      try simp only [Act.put]
      apply tree_run; (exact rfl); rfl; intro K hK
      refine wp_store_row 29 (.tmp 7) (.tmp 18) rfl (w1.drew.heap.size + 1) (node3 y R) rfl rfl 29 zero3 ((setRow_other _ _ _ _ (by omega)).trans r2) info29' rfl (sl3_one _ _ _ _ _ _ _ _ _) ?_
      refine hK.out _ _ hG.bl (fun _ => ?_)
      clear hK K
      try simp only [Act.put]
      exact tree_done ⟨(w1.drew.heap.size, w1.drew.heap.size + 1), rfl, rfl, hG⟩
    ·
      apply tree_run; (exact rfl); rfl; intro K hK; go_simp
      refine hK.out _ _ h1 (fun _ => ?_)
      clear hK K
      try simp only [Act.put, List.setIfInBounds_toArray, List.set_cons_zero, List.set_cons_succ]
      apply tree_run; (exact rfl); rfl; intro K hK; go_simp
      refine hK.out _ _ h2 (fun _ => ?_)
      clear hK K
      try simp only [Act.put, List.setIfInBounds_toArray, List.set_cons_zero, List.set_cons_succ]
      have hG := joinG_store (w := w) (pg := pg) (wd := wd) (x := x) (y := y) (L := L) (R := R) (s := s) h2 r2 r1 (by omega) (by omega) (by omega)
      apply tree_run; (exact rfl); rfl; intro K hK
      refine wp_store_row 29 (.tmp 6) (.tmp 16) rfl (w1.drew.heap.size + 1) (node3 x L) rfl rfl 29 zero3 r2 info29' rfl (sl3_one _ _ _ _ _ _ _ _ _) ?_
      refine hK.out _ _ (below_setRow h2 (by omega) _) (fun _ => ?_)
      clear hK K
      try simp only [Act.put]
      apply tree_run; (exact rfl); rfl; intro K hK
      refine wp_store_row 29 (.tmp 7) (.tmp 18) rfl (w1.drew.heap.size) (node3 y R) rfl rfl 29 zero3 ((setRow_other _ _ _ _ (by omega)).trans r1) info29' rfl (sl3_one _ _ _ _ _ _ _ _ _) ?_
      refine hK.out _ _ hG.bl (fun _ => ?_)
      clear hK K
      try simp only [Act.put]
      exact tree_done ⟨(w1.drew.heap.size + 1, w1.drew.heap.size), rfl, rfl, hG⟩
  case rest =>
  rintro ⟨g1, g2⟩ W hG
  have HG0 := Lib.hid hG
  have HLR := Lib.hid (fun W (h : JoinG w pg wd x L s y R (g1, g2) W) => HL.out.below (join_below h.bl))
  have HRR := Lib.hid (fun W (h : JoinG w pg wd x L s y R (g1, g2) W) => HRD.out.below (join_below h.bl))
  clear hG
  obtain ⟨⟨⟨s0, s1⟩, s2⟩, ⟨m0, m1, m2⟩, ⟨n0, n1, n2⟩, ⟨z0, z1, z2, z3⟩⟩ := HG0.out.facts
  simp only [Act.put, List.setIfInBounds_toArray, List.set_cons_zero, List.set_cons_succ]
  dsimp only at m0 m1 m2 n0 n1 n2 z2 z3
  go_wp2_with (first
    | (go_at_call 62; go_must (refine (leaf_v pg wd _ _ _ _ _ _ L _ (HLR.out _ HG0.out) _ HNL.out).mono ?_; rintro e w2 ⟨rfl, hb2⟩; have HGa := Lib.hid (HG0.out.next hb2); clear hb2 HG0 HNL; clear s0 s1 s2 m0 m1 m2 n0 n1 n2 z0 z1 z2 z3; obtain ⟨⟨⟨s0, s1⟩, s2⟩, ⟨m0, m1, m2⟩, ⟨n0, n1, n2⟩, ⟨z0, z1, z2, z3⟩⟩ := HGa.out.facts; dsimp only at m0 m1 m2 n0 n1 n2 z2 z3))
    | (go_at_call 84; skip; (refine (branch_v pg wd _ _ _ _ _ _ L _ (HLR.out _ HGa.out) _ HB1.out).mono ?_; rintro e w2 ⟨rfl, hb2⟩; have HG1 := Lib.hid (HGa.out.next hb2); clear hb2 HGa HB1; clear s0 s1 s2 m0 m1 m2 n0 n1 n2 z0 z1 z2 z3; obtain ⟨⟨⟨s0, s1⟩, s2⟩, ⟨m0, m1, m2⟩, ⟨n0, n1, n2⟩, ⟨z0, z1, z2, z3⟩⟩ := HG1.out.facts; dsimp only at m0 m1 m2 n0 n1 n2 z2 z3))
    | (go_at_call 84; go_must (refine (branch_v pg wd _ _ _ _ _ _ R _ (HRR.out _ HG1.out) _ HB2.out).mono ?_; rintro e w3 ⟨rfl, hb3⟩; have HG2 := Lib.hid (HG1.out.next hb3); clear hb3 HG1 HB2; clear s0 s1 s2 m0 m1 m2 n0 n1 n2 z0 z1 z2 z3; obtain ⟨⟨⟨s0, s1⟩, s2⟩, ⟨m0, m1, m2⟩, ⟨n0, n1, n2⟩, ⟨z0, z1, z2, z3⟩⟩ := HG2.out.facts; dsimp only at m0 m1 m2 n0 n1 n2 z2 z3)))
  refine wp_region_grow (by kernel_rfl) (by kernel_rfl) ?_
  repeat (any_goals (first | go_big_quiet_step ((go_at_call 63; exact quiet_below (maxKey_c pg wd _ h0 h1))) | quiet_step ((go_at_call 63; exact quiet_below (maxKey_c pg wd _ h0 h1)))))
  refine wpQuiet_nil ?_
  intro w3 hb
  have HG3 := Lib.hid (HG2.out.next hb)
  clear hb HG2
  clear s0 s1 s2 m0 m1 m2 n0 n1 n2 z0 z1 z2 z3; obtain ⟨⟨⟨s0, s1⟩, s2⟩, ⟨m0, m1, m2⟩, ⟨n0, n1, n2⟩, ⟨z0, z1, z2, z3⟩⟩ := HG3.out.facts; dsimp only at m0 m1 m2 n0 n1 n2 z2 z3
  go_wp2
  rw [HM.out] at m1
  refine wp_region_grow (by kernel_rfl) (by kernel_rfl) ?_
  repeat (any_goals (first | go_big_quiet_step (fail) | quiet_step (fail)))
  refine wpQuiet_nil ?_
  intro w4 hb
  have HG4 := Lib.hid (HG3.out.next hb)
  clear hb HG3
  clear s0 s1 s2 m0 m1 m2 n0 n1 n2 z0 z1 z2 z3; obtain ⟨⟨⟨s0, s1⟩, s2⟩, ⟨m0, m1, m2⟩, ⟨n0, n1, n2⟩, ⟨z0, z1, z2, z3⟩⟩ := HG4.out.facts; dsimp only at m0 m1 m2 n0 n1 n2 z2 z3
  go_wp2
  have hn := HNN.out
  obtain ⟨bb, bo, bx, bk⟩ := seps_at (HRR.out _ HG4.out).seps (show 0 < R.seps.length by omega)
  rw [← sepAt_get (show 0 < R.seps.length by omega), HRK.out] at bk
  have bb4 : bb < w4.heap.size := World.block_lt_of_cell? _ _ bk
  simp only [Nat.add_zero] at bk
  rw [bx, hn] at n1; clear hn
  refine wp_region_grow (by kernel_rfl) (by kernel_rfl) ?_
  repeat (any_goals (first | go_big_quiet_step (fail) | quiet_step (fail)))
  refine wpQuiet_nil ?_
  intro w5 hb
  have HG5 := Lib.hid (HG4.out.next hb)
  clear hb HG4
  clear s0 s1 s2 m0 m1 m2 n0 n1 n2 z0 z1 z2 z3; obtain ⟨⟨⟨s0, s1⟩, s2⟩, ⟨m0, m1, m2⟩, ⟨n0, n1, n2⟩, ⟨z0, z1, z2, z3⟩⟩ := HG5.out.facts; dsimp only at m0 m1 m2 n0 n1 n2 z2 z3
  clear bk bb4 bx
  go_wp2_with (first
    | (go_at_call 86; go_must (refine (putS_at x.A1 _ x.c1 1 L.seps [s] _ ((HLR.out _ HG5.out).seps.below ((Below.refl _ _).alloc (Nat.le_refl _) _)) (sep_row _ _) HL.out.hcs (by have := HRM.out; simp only [List.length_singleton]; omega) L.seps.length 0 _ _ rfl rfl (by omega) LS (by simpa using HLS.out)).mono ?_; rintro e w6 ⟨⟨A, c, rfl, hown⟩, hb6⟩; have HG6 := Lib.hid (HG5.out.next (below_a hb6)); have HO := Lib.hid hown; have h56 := (below_a hb6).size; have h56' := hb6.size; clear hown hb6 HG5; clear s0 s1 s2 m0 m1 m2 n0 n1 n2 z0 z1 z2 z3)))
  simp only [World.size_alloc] at h56'
  have hrows := And.intro HG6.out.rl HG6.out.rr
  dsimp only at hrows
  refine wp_region_tree (S := fun W => W.heap[g1]? = some (.cells (node3 x L) 29 (0, 0)) ∧ W.heap[g2]? = some (.cells (node3 y R) 29 (0, 0))) (.take 0 (.take 1 (.take 2 (.take 3 (.take 4 (.take 5 (.take 6 (.take 8 (.take 9 (.take 10 (.take 11 (.take 12 (.run 7 (.run 13 (.take 14 (.run 15 (.take 16 (.done)))))))))))))))))) (by kernel_rfl) (by kernel_rfl) (by kernel_rfl) (fun _ _ d _ _ h => by cases d <;> exact h) hrows ?_
  repeat (apply tree_take; (exact rfl); rfl; (intro W hW; have q0 := cell_of_row _ _ 2 _ _ _ hW.1; have q1 := cell_of_row _ _ 2 _ _ _ hW.2; have q2 := cell_of_row _ _ 1 _ _ _ hW.2; simp only [List.getElem?_toArray, List.getElem?_cons_zero, List.getElem?_cons_succ] at q0 q1 q2; go_simp; (try with_reducible rfl)); simp only [Act.put, List.setIfInBounds_toArray, List.set_cons_zero, List.set_cons_succ])
  apply tree_run; (exact rfl); rfl; intro K hK; go_simp
  refine (putK_at x.A2 y.A2 x.c2 y.c2 L.kids R.kids _ (HL.out.kids.below (join_below HG6.out.bl.drew)) (HRD.out.kids.below (join_below HG6.out.bl.drew)) HL.out.hck HRK2.out L.kids.length 0 _ _ rfl rfl (by omega) HL.out.kk KK (by simpa using HKK.out)).mono ?_
  rintro e w7 ⟨⟨B, d, rfl, hown7⟩, hb7⟩
  have HO7 := Lib.hid hown7
  clear hown7
  have hB7 := join_next HG6.out.bl.drew hb7
  have hr1 := hrows.1
  have hr2 := hrows.2
  have hgl1 := (Array.getElem?_eq_some_iff.1 hr1).1
  have hgl2 := (Array.getElem?_eq_some_iff.1 hr2).1
  have hrow7 := And.intro ((hb7.block g1 hgl1).trans hr1) ((hb7.block g2 hgl2).trans hr2)
  refine hK.out _ _ hrow7 (fun _ => ?_)
  clear hK K
  try simp only [Act.put, List.setIfInBounds_toArray, List.set_cons_zero, List.set_cons_succ]
  apply tree_run; (exact rfl); rfl; intro K hK; go_simp
  refine (putS_at A y.A1 c y.c1 LS R.seps _ ((own_rd' HO.out).2.below (Below.trans (b := w6.drew) (Below.refl w6.heap.size w6).drew hb7)) (HRD.out.seps.below (join_below hB7)) (own_rd' HO.out).1 (by rw [HLSL.out]; have := HRM.out; omega) LS.length 0 _ _ rfl rfl (by omega) SS (by simpa using HSS.out)).mono ?_
  rintro e w8 ⟨⟨C, f, rfl, hown8⟩, hb8⟩
  have HO8 := Lib.hid hown8
  clear hown8
  have hB8 := join_next hB7 hb8
  have hrow8 := And.intro ((hb8.block g1 (Nat.lt_of_lt_of_le hgl1 hb7.size)).trans hrow7.1) ((hb8.block g2 (Nat.lt_of_lt_of_le hgl2 hb7.size)).trans hrow7.2)
  refine hK.out _ _ hrow8 (fun _ => ?_)
  clear hK K
  try simp only [Act.put, List.setIfInBounds_toArray, List.set_cons_zero, List.set_cons_succ]
  repeat (apply tree_take; (exact rfl); rfl; (intro W hW; have q0 := cell_of_row _ _ 2 _ _ _ hW.1; have q1 := cell_of_row _ _ 2 _ _ _ hW.2; have q2 := cell_of_row _ _ 1 _ _ _ hW.2; simp only [List.getElem?_toArray, List.getElem?_cons_zero, List.getElem?_cons_succ] at q0 q1 q2; go_simp; (try with_reducible rfl)); simp only [Act.put, List.setIfInBounds_toArray, List.set_cons_zero, List.set_cons_succ])
  apply tree_run; (exact rfl); rfl; intro K hK
  have hg := join_row hB8
  have hl1 := HG6.out.ll
  have hl2 := HG6.out.lr
  dsimp only at hl1 hl2
  refine wp_store_row 29 (.tmp 4) (.tmp 167) rfl (w.heap.size + 1 + 1) #[.slice none 0 0, .slice C SS.length f, .slice B KK.length d] rfl rfl 29 zero3 hg info29' rfl (sl3_one _ _ _ _ _ _ _ _ _) ?_
  refine hK.out _ _ ⟨(setRow_other _ _ _ _ (by omega)).trans hrow8.1, (setRow_other _ _ _ _ (by omega)).trans hrow8.2⟩ (fun _ => ?_)
  clear hK K
  try simp only [Act.put]
  repeat (apply tree_take; (exact rfl); rfl; (intro W hW; have q0 := cell_of_row _ _ 2 _ _ _ hW.1; have q1 := cell_of_row _ _ 2 _ _ _ hW.2; have q2 := cell_of_row _ _ 1 _ _ _ hW.2; simp only [List.getElem?_toArray, List.getElem?_cons_zero, List.getElem?_cons_succ] at q0 q1 q2; go_simp; (try with_reducible rfl)); simp only [Act.put, List.setIfInBounds_toArray, List.set_cons_zero, List.set_cons_succ])
  refine tree_done ?_
  go_wp2
  refine bodyPost_ret (results_ct rfl _ _ (w.heap.size + 1 + 1) 29 #[.slice none 0 0, .slice C SS.length f, .slice B KK.length d] (0, 0) _ rfl (setRow_block _ _ _ _ _ _ hg) Try.underlying29 rfl info29') rfl ?_
  have hlenS : SS.length = L.seps.length + 1 + R.seps.length := by rw [← HSS.out, List.length_append, HLSL.out]
  have hlenK : KK.length = L.kids.length + R.kids.length := by rw [← HKK.out, List.length_append]
  have hs6 := join_size HG6.out.bl
  have hs7 : w6.heap.size ≤ w7.heap.size := hb7.size
  have hs8 := hb8.size
  have hO := OwN.branch (ownsRow_mono' (base' := w.heap.size + 1 + 1 + 1) (own_below HO7.out hb8) (show w.heap.size + 1 + 1 + 1 ≤ w6.heap.size from hs6)) (ownsRow_mono' (base' := w.heap.size + 1 + 1 + 1) HO8.out (by omega)) (Nat.le_refl _) (by rw [hlenK]; exact HRK2.out) (by rw [hlenS]; have := HRM.out; omega) (fun q hq => by rw [← HKK.out] at hq; exact (List.mem_append.1 hq).elim (HL.out.kk q) (HRD.out.kk q)) (fun q hq => by rw [← HSS.out] at hq; exact (List.mem_append.1 hq).elim (fun hq => by rw [← HLS.out] at hq; exact (List.mem_append.1 hq).elim (HL.out.sk q) (fun h => by rw [List.mem_singleton.1 h]; exact HSM.out)) (HRD.out.sk q))
  exact join_fin_branch w _ pg wd L R s HE.out HK.out SS (by rw [HLS.out, HSS.out]) KK HKK.out B C d f (below_setRow (join_below hB8) (by omega) _) ((hO.setRow' _ _ (.inl (by omega))).wide (by omega) (by simp [World.setRow]))


theorem join_branch_g3 (pg wd : Int) (x : VH) (L : NodeD) (s : ByteArray) (y : VH) (R : NodeD) (w : World) (hL : RdN w x.A0 x.c0 x.A1 x.c1 x.A2 x.c2 L) (hR : RdN w y.A0 y.c0 y.A1 y.c1 y.A2 y.c2 R) (hsm : s.size ≤ 140737488355328)
    (hr : right pg wd = true) (h1 : branchB pg wd L = true) (h2 : branchB pg wd R = true) (hnl : leafB pg wd L = false) (k1 : (s.toList == []) = false) (k2 : decide ((s.size : Int) ≤ pg / 16) = true) (m : Nat) (hm : L.seps.length = m + 1) (lk : ByteArray) (hlk : sepAt L.seps m = lk) (ho : Op.bytesLess lk.toList s.toList = true) (hn : R.seps.length = 0) (hE : joinE pg wd L s R = 0) (hroom : (L.seps.length + R.seps.length + 1) * 16 ≤ 140737488355328) (hroomk : (L.kids.length + R.kids.length) * 36 ≤ 140737488355328) :
    Calls Try.prog 89 #[vF pg wd, vH x L s y R] w fun e w' => JoinPost pg wd L s R w e w' := by
  obtain ⟨⟨h0', h1'⟩, _, _⟩ := right_spec hr
  have h0 : 0 ≤ pg := by omega
  have HRI := Lib.hid hr
  have HL := Lib.hid hL
  have HRD := Lib.hid hR
  have HB1 := Lib.hid h1
  have HB2 := Lib.hid h2
  have hlp := hL.hs
  have hrp := hR.hs
  have HSM : Hid (s.size ≤ 140737488355328) := Lib.hid hsm
  have HNL := Lib.hid hnl
  clear hnl hr h1 h2 hL hR h0'
  have h1 := h1'
  have HE := Lib.hid hE
  clear hE
  have HK : Hid (L.kids.length ≠ 0) := Lib.hid (by have := (of_decide_eq_true HB1.out).1; omega)
  have HRM := Lib.hid hroom
  have HRK2 := Lib.hid hroomk
  clear hroom hroomk
  obtain ⟨LS, hLS⟩ : ∃ LS, L.seps ++ [s] = LS := ⟨_, rfl⟩
  obtain ⟨SS, hSS⟩ : ∃ SS, LS ++ R.seps = SS := ⟨_, rfl⟩
  obtain ⟨KK, hKK⟩ : ∃ KK, L.kids ++ R.kids = KK := ⟨_, rfl⟩
  have HLS := Lib.hid hLS
  have HSS := Lib.hid hSS
  have HKK := Lib.hid hKK
  have HLSL : Hid (LS.length = L.seps.length + 1) := Lib.hid (by rw [← hLS]; simp)
  clear hLS hSS hKK
  have HM := Lib.hid hm
  have HLK := Lib.hid hlk
  clear hm hlk
  have HNN := Lib.hid hn
  clear hn
  go_enter Try.func89, Try.ntmps89
  go_wp2_with (first
    | (go_at_call 61; refine (frame_v pg wd _ _ HRI.out).mono ?_; rintro e w1 ⟨rfl, hb⟩; have hB1 := join_first hb; clear hb))
  refine region_mid (α := Nat × Nat) (fun X a => ((((((a.put (some 15) (.pointer (some ⟨w.heap.size + 1, 0, none⟩))).put (some 16) (vN x.A0 x.c0 x.A1 x.c1 x.A2 x.c2 L)).put (some 17) (.pointer (some ⟨w.heap.size + 1, 4, none⟩))).put (some 18) (vN y.A0 y.c0 y.A1 y.c1 y.A2 y.c2 R)).put (some 6) (.pointer (some ⟨X.1, 0, none⟩))).put (some 7) (.pointer (some ⟨X.2, 0, none⟩)))) (fun X W => JoinG w pg wd x L s y R X W) ?region ?rest
  case region =>
    have HF := Lib.hid (fun W (h : Below (w.heap.size + 1 + 1 + 1) (joinW w pg wd x L s y R) W) => join_boxes h)
    refine wp_region_tree (S := Below (w.heap.size + 1 + 1 + 1) (joinW w pg wd x L s y R)) (.take 0 (.take 1 (.take 2 (.take 3 (.two 4 5 (.run 5 (.run 6 (.run 7 (.done)))) (.run 4 (.run 6 (.run 7 (.done)))))))))
      (by kernel_rfl) (by kernel_rfl) (by kernel_rfl) (by rintro c a d v W ⟨X, h, _⟩; cases h) hB1.drew ?_
    repeat (apply tree_take; (exact rfl); rfl; (intro W hW; obtain ⟨⟨q0, q1⟩, q2, q3, q4, q5, q6, q7, q8⟩ := HF.out W hW; go_simp; (try with_reducible rfl)); simp only [Act.put, List.setIfInBounds_toArray, List.set_cons_zero, List.set_cons_succ])
    have hlo : w.heap.size + 1 + 1 + 1 ≤ w1.drew.heap.size := join_size hB1.drew
    have h1 := hB1.drew.alloc hlo (.cells zero3 29)
    have h2 := h1.alloc (by rw [World.size_alloc]; omega) (.cells zero3 29)
    have r1 : ((w1.drew.alloc (.cells zero3 29)).alloc (.cells zero3 29)).heap[w1.drew.heap.size]? = some (.cells zero3 29 (0, 0)) := (Below.heap_alloc _ _ _ (by simp)).trans (heap_alloc_new _ _)
    have r2 : ((w1.drew.alloc (.cells zero3 29)).alloc (.cells zero3 29)).heap[w1.drew.heap.size + 1]? = some (.cells zero3 29 (0, 0)) := alloc2_at _ _ _
    refine tree_two ?_ ?_
    ·
      apply tree_run; (exact rfl); rfl; intro K hK; go_simp
      refine hK.out _ _ h1 (fun _ => ?_)
      clear hK K
      try simp only [Act.put, List.setIfInBounds_toArray, List.set_cons_zero, List.set_cons_succ]
      apply tree_run; (exact rfl); rfl; intro K hK; go_simp
      refine hK.out _ _ h2 (fun _ => ?_)
      clear hK K
      try simp only [Act.put, List.setIfInBounds_toArray, List.set_cons_zero, List.set_cons_succ]
      have hG := joinG_store (w := w) (pg := pg) (wd := wd) (x := x) (y := y) (L := L) (R := R) (s := s) h2 r1 r2 (by omega) (by omega) (by omega)
      apply tree_run; (exact rfl); rfl; intro K hK
      refine wp_store_row 29 (.tmp 6) (.tmp 16) rfl (w1.drew.heap.size) (node3 x L) rfl rfl 29 zero3 r1 info29' rfl (sl3_one _ _ _ _ _ _ _ _ _) ?_
      refine hK.out _ _ (below_setRow h2 (by omega) _) (fun _ => ?_)
      clear hK K
      try simp only [Act.put]
      apply tree_run; (exact rfl); rfl; intro K hK
      refine wp_store_row 29 (.tmp 7) (.tmp 18) rfl (w1.drew.heap.size + 1) (node3 y R) rfl rfl 29 zero3 ((setRow_other _ _ _ _ (by omega)).trans r2) info29' rfl (sl3_one _ _ _ _ _ _ _ _ _) ?_
      refine hK.out _ _ hG.bl (fun _ => ?_)
      clear hK K
      try simp only [Act.put]
      exact tree_done ⟨(w1.drew.heap.size, w1.drew.heap.size + 1), rfl, rfl, hG⟩
    ·
      apply tree_run; (exact rfl); rfl; intro K hK; go_simp
      refine hK.out _ _ h1 (fun _ => ?_)
      clear hK K
      try simp only [Act.put, List.setIfInBounds_toArray, List.set_cons_zero, List.set_cons_succ]
      apply tree_run; (exact rfl); rfl; intro K hK; go_simp
      refine hK.out _ _ h2 (fun _ => ?_)
      clear hK K
      try simp only [Act.put, List.setIfInBounds_toArray, List.set_cons_zero, List.set_cons_succ]
      have hG := joinG_store (w := w) (pg := pg) (wd := wd) (x := x) (y := y) (L := L) (R := R) (s := s) h2 r2 r1 (by omega) (by omega) (by omega)
      apply tree_run; (exact rfl); rfl; intro K hK
      refine wp_store_row 29 (.tmp 6) (.tmp 16) rfl (w1.drew.heap.size + 1) (node3 x L) rfl rfl 29 zero3 r2 info29' rfl (sl3_one _ _ _ _ _ _ _ _ _) ?_
      refine hK.out _ _ (below_setRow h2 (by omega) _) (fun _ => ?_)
      clear hK K
      try simp only [Act.put]
      apply tree_run; (exact rfl); rfl; intro K hK
      refine wp_store_row 29 (.tmp 7) (.tmp 18) rfl (w1.drew.heap.size) (node3 y R) rfl rfl 29 zero3 ((setRow_other _ _ _ _ (by omega)).trans r1) info29' rfl (sl3_one _ _ _ _ _ _ _ _ _) ?_
      refine hK.out _ _ hG.bl (fun _ => ?_)
      clear hK K
      try simp only [Act.put]
      exact tree_done ⟨(w1.drew.heap.size + 1, w1.drew.heap.size), rfl, rfl, hG⟩
  case rest =>
  rintro ⟨g1, g2⟩ W hG
  have HG0 := Lib.hid hG
  have HLR := Lib.hid (fun W (h : JoinG w pg wd x L s y R (g1, g2) W) => HL.out.below (join_below h.bl))
  have HRR := Lib.hid (fun W (h : JoinG w pg wd x L s y R (g1, g2) W) => HRD.out.below (join_below h.bl))
  clear hG
  obtain ⟨⟨⟨s0, s1⟩, s2⟩, ⟨m0, m1, m2⟩, ⟨n0, n1, n2⟩, ⟨z0, z1, z2, z3⟩⟩ := HG0.out.facts
  simp only [Act.put, List.setIfInBounds_toArray, List.set_cons_zero, List.set_cons_succ]
  dsimp only at m0 m1 m2 n0 n1 n2 z2 z3
  go_wp2_with (first
    | (go_at_call 62; go_must (refine (leaf_v pg wd _ _ _ _ _ _ L _ (HLR.out _ HG0.out) _ HNL.out).mono ?_; rintro e w2 ⟨rfl, hb2⟩; have HGa := Lib.hid (HG0.out.next hb2); clear hb2 HG0 HNL; clear s0 s1 s2 m0 m1 m2 n0 n1 n2 z0 z1 z2 z3; obtain ⟨⟨⟨s0, s1⟩, s2⟩, ⟨m0, m1, m2⟩, ⟨n0, n1, n2⟩, ⟨z0, z1, z2, z3⟩⟩ := HGa.out.facts; dsimp only at m0 m1 m2 n0 n1 n2 z2 z3))
    | (go_at_call 84; skip; (refine (branch_v pg wd _ _ _ _ _ _ L _ (HLR.out _ HGa.out) _ HB1.out).mono ?_; rintro e w2 ⟨rfl, hb2⟩; have HG1 := Lib.hid (HGa.out.next hb2); clear hb2 HGa HB1; clear s0 s1 s2 m0 m1 m2 n0 n1 n2 z0 z1 z2 z3; obtain ⟨⟨⟨s0, s1⟩, s2⟩, ⟨m0, m1, m2⟩, ⟨n0, n1, n2⟩, ⟨z0, z1, z2, z3⟩⟩ := HG1.out.facts; dsimp only at m0 m1 m2 n0 n1 n2 z2 z3))
    | (go_at_call 84; go_must (refine (branch_v pg wd _ _ _ _ _ _ R _ (HRR.out _ HG1.out) _ HB2.out).mono ?_; rintro e w3 ⟨rfl, hb3⟩; have HG2 := Lib.hid (HG1.out.next hb3); clear hb3 HG1 HB2; clear s0 s1 s2 m0 m1 m2 n0 n1 n2 z0 z1 z2 z3; obtain ⟨⟨⟨s0, s1⟩, s2⟩, ⟨m0, m1, m2⟩, ⟨n0, n1, n2⟩, ⟨z0, z1, z2, z3⟩⟩ := HG2.out.facts; dsimp only at m0 m1 m2 n0 n1 n2 z2 z3)))
  refine wp_region_grow (by kernel_rfl) (by kernel_rfl) ?_
  repeat (any_goals (first | go_big_quiet_step ((go_at_call 63; exact quiet_below (maxKey_c pg wd _ h0 h1))) | quiet_step ((go_at_call 63; exact quiet_below (maxKey_c pg wd _ h0 h1)))))
  refine wpQuiet_nil ?_
  intro w3 hb
  have HG3 := Lib.hid (HG2.out.next hb)
  clear hb HG2
  clear s0 s1 s2 m0 m1 m2 n0 n1 n2 z0 z1 z2 z3; obtain ⟨⟨⟨s0, s1⟩, s2⟩, ⟨m0, m1, m2⟩, ⟨n0, n1, n2⟩, ⟨z0, z1, z2, z3⟩⟩ := HG3.out.facts; dsimp only at m0 m1 m2 n0 n1 n2 z2 z3
  go_wp2
  have hm := HM.out
  obtain ⟨ab, ao, ax, ak⟩ := seps_at (HLR.out _ HG3.out).seps (show m < L.seps.length by omega)
  rw [← sepAt_get (show m < L.seps.length by omega), HLK.out] at ak
  have hm0 : ((m : Int) + 1 == 0) = false := by rw [beq_eq_false_iff_ne]; omega
  have hmb : m ≤ 140737488355328 := by omega
  have ab3 : ab < w3.heap.size := World.block_lt_of_cell? _ _ ak
  rw [ax, hm] at m1; clear hm
  refine wp_region_grow (by kernel_rfl) (by kernel_rfl) ?_
  repeat (any_goals (first | go_big_quiet_step (fail) | quiet_step (fail)))
  refine wpQuiet_nil ?_
  intro w4 hb
  have HG4 := Lib.hid (HG3.out.next hb)
  clear hb HG3
  clear s0 s1 s2 m0 m1 m2 n0 n1 n2 z0 z1 z2 z3; obtain ⟨⟨⟨s0, s1⟩, s2⟩, ⟨m0, m1, m2⟩, ⟨n0, n1, n2⟩, ⟨z0, z1, z2, z3⟩⟩ := HG4.out.facts; dsimp only at m0 m1 m2 n0 n1 n2 z2 z3
  go_wp2
  clear ak ab3 ax
  rw [HNN.out] at n1
  refine wp_region_grow (by kernel_rfl) (by kernel_rfl) ?_
  repeat (any_goals (first | go_big_quiet_step (fail) | quiet_step (fail)))
  refine wpQuiet_nil ?_
  intro w5 hb
  have HG5 := Lib.hid (HG4.out.next hb)
  clear hb HG4
  clear s0 s1 s2 m0 m1 m2 n0 n1 n2 z0 z1 z2 z3; obtain ⟨⟨⟨s0, s1⟩, s2⟩, ⟨m0, m1, m2⟩, ⟨n0, n1, n2⟩, ⟨z0, z1, z2, z3⟩⟩ := HG5.out.facts; dsimp only at m0 m1 m2 n0 n1 n2 z2 z3
  go_wp2_with (first
    | (go_at_call 86; go_must (refine (putS_at x.A1 _ x.c1 1 L.seps [s] _ ((HLR.out _ HG5.out).seps.below ((Below.refl _ _).alloc (Nat.le_refl _) _)) (sep_row _ _) HL.out.hcs (by have := HRM.out; simp only [List.length_singleton]; omega) L.seps.length 0 _ _ rfl rfl (by omega) LS (by simpa using HLS.out)).mono ?_; rintro e w6 ⟨⟨A, c, rfl, hown⟩, hb6⟩; have HG6 := Lib.hid (HG5.out.next (below_a hb6)); have HO := Lib.hid hown; have h56 := (below_a hb6).size; have h56' := hb6.size; clear hown hb6 HG5; clear s0 s1 s2 m0 m1 m2 n0 n1 n2 z0 z1 z2 z3)))
  simp only [World.size_alloc] at h56'
  have hrows := And.intro HG6.out.rl HG6.out.rr
  dsimp only at hrows
  refine wp_region_tree (S := fun W => W.heap[g1]? = some (.cells (node3 x L) 29 (0, 0)) ∧ W.heap[g2]? = some (.cells (node3 y R) 29 (0, 0))) (.take 0 (.take 1 (.take 2 (.take 3 (.take 4 (.take 5 (.take 6 (.take 8 (.take 9 (.take 10 (.take 11 (.take 12 (.run 7 (.run 13 (.take 14 (.run 15 (.take 16 (.done)))))))))))))))))) (by kernel_rfl) (by kernel_rfl) (by kernel_rfl) (fun _ _ d _ _ h => by cases d <;> exact h) hrows ?_
  repeat (apply tree_take; (exact rfl); rfl; (intro W hW; have q0 := cell_of_row _ _ 2 _ _ _ hW.1; have q1 := cell_of_row _ _ 2 _ _ _ hW.2; have q2 := cell_of_row _ _ 1 _ _ _ hW.2; simp only [List.getElem?_toArray, List.getElem?_cons_zero, List.getElem?_cons_succ] at q0 q1 q2; go_simp; (try with_reducible rfl)); simp only [Act.put, List.setIfInBounds_toArray, List.set_cons_zero, List.set_cons_succ])
  apply tree_run; (exact rfl); rfl; intro K hK; go_simp
  refine (putK_at x.A2 y.A2 x.c2 y.c2 L.kids R.kids _ (HL.out.kids.below (join_below HG6.out.bl.drew)) (HRD.out.kids.below (join_below HG6.out.bl.drew)) HL.out.hck HRK2.out L.kids.length 0 _ _ rfl rfl (by omega) HL.out.kk KK (by simpa using HKK.out)).mono ?_
  rintro e w7 ⟨⟨B, d, rfl, hown7⟩, hb7⟩
  have HO7 := Lib.hid hown7
  clear hown7
  have hB7 := join_next HG6.out.bl.drew hb7
  have hr1 := hrows.1
  have hr2 := hrows.2
  have hgl1 := (Array.getElem?_eq_some_iff.1 hr1).1
  have hgl2 := (Array.getElem?_eq_some_iff.1 hr2).1
  have hrow7 := And.intro ((hb7.block g1 hgl1).trans hr1) ((hb7.block g2 hgl2).trans hr2)
  refine hK.out _ _ hrow7 (fun _ => ?_)
  clear hK K
  try simp only [Act.put, List.setIfInBounds_toArray, List.set_cons_zero, List.set_cons_succ]
  apply tree_run; (exact rfl); rfl; intro K hK; go_simp
  refine (putS_at A y.A1 c y.c1 LS R.seps _ ((own_rd' HO.out).2.below (Below.trans (b := w6.drew) (Below.refl w6.heap.size w6).drew hb7)) (HRD.out.seps.below (join_below hB7)) (own_rd' HO.out).1 (by rw [HLSL.out]; have := HRM.out; omega) LS.length 0 _ _ rfl rfl (by omega) SS (by simpa using HSS.out)).mono ?_
  rintro e w8 ⟨⟨C, f, rfl, hown8⟩, hb8⟩
  have HO8 := Lib.hid hown8
  clear hown8
  have hB8 := join_next hB7 hb8
  have hrow8 := And.intro ((hb8.block g1 (Nat.lt_of_lt_of_le hgl1 hb7.size)).trans hrow7.1) ((hb8.block g2 (Nat.lt_of_lt_of_le hgl2 hb7.size)).trans hrow7.2)
  refine hK.out _ _ hrow8 (fun _ => ?_)
  clear hK K
  try simp only [Act.put, List.setIfInBounds_toArray, List.set_cons_zero, List.set_cons_succ]
  repeat (apply tree_take; (exact rfl); rfl; (intro W hW; have q0 := cell_of_row _ _ 2 _ _ _ hW.1; have q1 := cell_of_row _ _ 2 _ _ _ hW.2; have q2 := cell_of_row _ _ 1 _ _ _ hW.2; simp only [List.getElem?_toArray, List.getElem?_cons_zero, List.getElem?_cons_succ] at q0 q1 q2; go_simp; (try with_reducible rfl)); simp only [Act.put, List.setIfInBounds_toArray, List.set_cons_zero, List.set_cons_succ])
  apply tree_run; (exact rfl); rfl; intro K hK
  have hg := join_row hB8
  have hl1 := HG6.out.ll
  have hl2 := HG6.out.lr
  dsimp only at hl1 hl2
  refine wp_store_row 29 (.tmp 4) (.tmp 167) rfl (w.heap.size + 1 + 1) #[.slice none 0 0, .slice C SS.length f, .slice B KK.length d] rfl rfl 29 zero3 hg info29' rfl (sl3_one _ _ _ _ _ _ _ _ _) ?_
  refine hK.out _ _ ⟨(setRow_other _ _ _ _ (by omega)).trans hrow8.1, (setRow_other _ _ _ _ (by omega)).trans hrow8.2⟩ (fun _ => ?_)
  clear hK K
  try simp only [Act.put]
  repeat (apply tree_take; (exact rfl); rfl; (intro W hW; have q0 := cell_of_row _ _ 2 _ _ _ hW.1; have q1 := cell_of_row _ _ 2 _ _ _ hW.2; have q2 := cell_of_row _ _ 1 _ _ _ hW.2; simp only [List.getElem?_toArray, List.getElem?_cons_zero, List.getElem?_cons_succ] at q0 q1 q2; go_simp; (try with_reducible rfl)); simp only [Act.put, List.setIfInBounds_toArray, List.set_cons_zero, List.set_cons_succ])
  refine tree_done ?_
  go_wp2
  refine bodyPost_ret (results_ct rfl _ _ (w.heap.size + 1 + 1) 29 #[.slice none 0 0, .slice C SS.length f, .slice B KK.length d] (0, 0) _ rfl (setRow_block _ _ _ _ _ _ hg) Try.underlying29 rfl info29') rfl ?_
  have hlenS : SS.length = L.seps.length + 1 + R.seps.length := by rw [← HSS.out, List.length_append, HLSL.out]
  have hlenK : KK.length = L.kids.length + R.kids.length := by rw [← HKK.out, List.length_append]
  have hs6 := join_size HG6.out.bl
  have hs7 : w6.heap.size ≤ w7.heap.size := hb7.size
  have hs8 := hb8.size
  have hO := OwN.branch (ownsRow_mono' (base' := w.heap.size + 1 + 1 + 1) (own_below HO7.out hb8) (show w.heap.size + 1 + 1 + 1 ≤ w6.heap.size from hs6)) (ownsRow_mono' (base' := w.heap.size + 1 + 1 + 1) HO8.out (by omega)) (Nat.le_refl _) (by rw [hlenK]; exact HRK2.out) (by rw [hlenS]; have := HRM.out; omega) (fun q hq => by rw [← HKK.out] at hq; exact (List.mem_append.1 hq).elim (HL.out.kk q) (HRD.out.kk q)) (fun q hq => by rw [← HSS.out] at hq; exact (List.mem_append.1 hq).elim (fun hq => by rw [← HLS.out] at hq; exact (List.mem_append.1 hq).elim (HL.out.sk q) (fun h => by rw [List.mem_singleton.1 h]; exact HSM.out)) (HRD.out.sk q))
  exact join_fin_branch w _ pg wd L R s HE.out HK.out SS (by rw [HLS.out, HSS.out]) KK HKK.out B C d f (below_setRow (join_below hB8) (by omega) _) ((hO.setRow' _ _ (.inl (by omega))).wide (by omega) (by simp [World.setRow]))


theorem join_branch_g4 (pg wd : Int) (x : VH) (L : NodeD) (s : ByteArray) (y : VH) (R : NodeD) (w : World) (hL : RdN w x.A0 x.c0 x.A1 x.c1 x.A2 x.c2 L) (hR : RdN w y.A0 y.c0 y.A1 y.c1 y.A2 y.c2 R) (hsm : s.size ≤ 140737488355328)
    (hr : right pg wd = true) (h1 : branchB pg wd L = true) (h2 : branchB pg wd R = true) (hnl : leafB pg wd L = false) (k1 : (s.toList == []) = false) (k2 : decide ((s.size : Int) ≤ pg / 16) = true) (m : Nat) (hm : L.seps.length = m + 1) (lk : ByteArray) (hlk : sepAt L.seps m = lk) (ho : Op.bytesLess lk.toList s.toList = true) (n : Nat) (hn : R.seps.length = n + 1) (rk : ByteArray) (hrk : sepAt R.seps 0 = rk) (hq : Op.bytesLess rk.toList s.toList = false) (hq2 : (rk.toList == s.toList) = false) (hE : joinE pg wd L s R = 0) (hroom : (L.seps.length + R.seps.length + 1) * 16 ≤ 140737488355328) (hroomk : (L.kids.length + R.kids.length) * 36 ≤ 140737488355328) :
    Calls Try.prog 89 #[vF pg wd, vH x L s y R] w fun e w' => JoinPost pg wd L s R w e w' := by
  obtain ⟨⟨h0', h1'⟩, _, _⟩ := right_spec hr
  have h0 : 0 ≤ pg := by omega
  have HRI := Lib.hid hr
  have HL := Lib.hid hL
  have HRD := Lib.hid hR
  have HB1 := Lib.hid h1
  have HB2 := Lib.hid h2
  have hlp := hL.hs
  have hrp := hR.hs
  have HSM : Hid (s.size ≤ 140737488355328) := Lib.hid hsm
  have HNL := Lib.hid hnl
  clear hnl hr h1 h2 hL hR h0'
  have h1 := h1'
  have HE := Lib.hid hE
  clear hE
  have HK : Hid (L.kids.length ≠ 0) := Lib.hid (by have := (of_decide_eq_true HB1.out).1; omega)
  have HRM := Lib.hid hroom
  have HRK2 := Lib.hid hroomk
  clear hroom hroomk
  obtain ⟨LS, hLS⟩ : ∃ LS, L.seps ++ [s] = LS := ⟨_, rfl⟩
  obtain ⟨SS, hSS⟩ : ∃ SS, LS ++ R.seps = SS := ⟨_, rfl⟩
  obtain ⟨KK, hKK⟩ : ∃ KK, L.kids ++ R.kids = KK := ⟨_, rfl⟩
  have HLS := Lib.hid hLS
  have HSS := Lib.hid hSS
  have HKK := Lib.hid hKK
  have HLSL : Hid (LS.length = L.seps.length + 1) := Lib.hid (by rw [← hLS]; simp)
  clear hLS hSS hKK
  have HM := Lib.hid hm
  have HLK := Lib.hid hlk
  clear hm hlk
  have HNN := Lib.hid hn
  have HRK := Lib.hid hrk
  clear hn hrk
  go_enter Try.func89, Try.ntmps89
  go_wp2_with (first
    | (go_at_call 61; refine (frame_v pg wd _ _ HRI.out).mono ?_; rintro e w1 ⟨rfl, hb⟩; have hB1 := join_first hb; clear hb))
  refine region_mid (α := Nat × Nat) (fun X a => ((((((a.put (some 15) (.pointer (some ⟨w.heap.size + 1, 0, none⟩))).put (some 16) (vN x.A0 x.c0 x.A1 x.c1 x.A2 x.c2 L)).put (some 17) (.pointer (some ⟨w.heap.size + 1, 4, none⟩))).put (some 18) (vN y.A0 y.c0 y.A1 y.c1 y.A2 y.c2 R)).put (some 6) (.pointer (some ⟨X.1, 0, none⟩))).put (some 7) (.pointer (some ⟨X.2, 0, none⟩)))) (fun X W => JoinG w pg wd x L s y R X W) ?region ?rest
  case region =>
    have HF := Lib.hid (fun W (h : Below (w.heap.size + 1 + 1 + 1) (joinW w pg wd x L s y R) W) => join_boxes h)
    refine wp_region_tree (S := Below (w.heap.size + 1 + 1 + 1) (joinW w pg wd x L s y R)) (.take 0 (.take 1 (.take 2 (.take 3 (.two 4 5 (.run 5 (.run 6 (.run 7 (.done)))) (.run 4 (.run 6 (.run 7 (.done)))))))))
      (by kernel_rfl) (by kernel_rfl) (by kernel_rfl) (by rintro c a d v W ⟨X, h, _⟩; cases h) hB1.drew ?_
    repeat (apply tree_take; (exact rfl); rfl; (intro W hW; obtain ⟨⟨q0, q1⟩, q2, q3, q4, q5, q6, q7, q8⟩ := HF.out W hW; go_simp; (try with_reducible rfl)); simp only [Act.put, List.setIfInBounds_toArray, List.set_cons_zero, List.set_cons_succ])
    have hlo : w.heap.size + 1 + 1 + 1 ≤ w1.drew.heap.size := join_size hB1.drew
    have h1 := hB1.drew.alloc hlo (.cells zero3 29)
    have h2 := h1.alloc (by rw [World.size_alloc]; omega) (.cells zero3 29)
    have r1 : ((w1.drew.alloc (.cells zero3 29)).alloc (.cells zero3 29)).heap[w1.drew.heap.size]? = some (.cells zero3 29 (0, 0)) := (Below.heap_alloc _ _ _ (by simp)).trans (heap_alloc_new _ _)
    have r2 : ((w1.drew.alloc (.cells zero3 29)).alloc (.cells zero3 29)).heap[w1.drew.heap.size + 1]? = some (.cells zero3 29 (0, 0)) := alloc2_at _ _ _
    refine tree_two ?_ ?_
    ·
      apply tree_run; (exact rfl); rfl; intro K hK; go_simp
      refine hK.out _ _ h1 (fun _ => ?_)
      clear hK K
      try simp only [Act.put, List.setIfInBounds_toArray, List.set_cons_zero, List.set_cons_succ]
      apply tree_run; (exact rfl); rfl; intro K hK; go_simp
      refine hK.out _ _ h2 (fun _ => ?_)
      clear hK K
      try simp only [Act.put, List.setIfInBounds_toArray, List.set_cons_zero, List.set_cons_succ]
      have hG := joinG_store (w := w) (pg := pg) (wd := wd) (x := x) (y := y) (L := L) (R := R) (s := s) h2 r1 r2 (by omega) (by omega) (by omega)
      apply tree_run; (exact rfl); rfl; intro K hK
      refine wp_store_row 29 (.tmp 6) (.tmp 16) rfl (w1.drew.heap.size) (node3 x L) rfl rfl 29 zero3 r1 info29' rfl (sl3_one _ _ _ _ _ _ _ _ _) ?_
      refine hK.out _ _ (below_setRow h2 (by omega) _) (fun _ => ?_)
      clear hK K
      try simp only [Act.put]
      apply tree_run; (exact rfl); rfl; intro K hK
      refine wp_store_row 29 (.tmp 7) (.tmp 18) rfl (w1.drew.heap.size + 1) (node3 y R) rfl rfl 29 zero3 ((setRow_other _ _ _ _ (by omega)).trans r2) info29' rfl (sl3_one _ _ _ _ _ _ _ _ _) ?_
      refine hK.out _ _ hG.bl (fun _ => ?_)
      clear hK K
      try simp only [Act.put]
      exact tree_done ⟨(w1.drew.heap.size, w1.drew.heap.size + 1), rfl, rfl, hG⟩
    ·
      apply tree_run; (exact rfl); rfl; intro K hK; go_simp
      refine hK.out _ _ h1 (fun _ => ?_)
      clear hK K
      try simp only [Act.put, List.setIfInBounds_toArray, List.set_cons_zero, List.set_cons_succ]
      apply tree_run; (exact rfl); rfl; intro K hK; go_simp
      refine hK.out _ _ h2 (fun _ => ?_)
      clear hK K
      try simp only [Act.put, List.setIfInBounds_toArray, List.set_cons_zero, List.set_cons_succ]
      have hG := joinG_store (w := w) (pg := pg) (wd := wd) (x := x) (y := y) (L := L) (R := R) (s := s) h2 r2 r1 (by omega) (by omega) (by omega)
      apply tree_run; (exact rfl); rfl; intro K hK
      refine wp_store_row 29 (.tmp 6) (.tmp 16) rfl (w1.drew.heap.size + 1) (node3 x L) rfl rfl 29 zero3 r2 info29' rfl (sl3_one _ _ _ _ _ _ _ _ _) ?_
      refine hK.out _ _ (below_setRow h2 (by omega) _) (fun _ => ?_)
      clear hK K
      try simp only [Act.put]
      apply tree_run; (exact rfl); rfl; intro K hK
      refine wp_store_row 29 (.tmp 7) (.tmp 18) rfl (w1.drew.heap.size) (node3 y R) rfl rfl 29 zero3 ((setRow_other _ _ _ _ (by omega)).trans r1) info29' rfl (sl3_one _ _ _ _ _ _ _ _ _) ?_
      refine hK.out _ _ hG.bl (fun _ => ?_)
      clear hK K
      try simp only [Act.put]
      exact tree_done ⟨(w1.drew.heap.size + 1, w1.drew.heap.size), rfl, rfl, hG⟩
  case rest =>
  rintro ⟨g1, g2⟩ W hG
  have HG0 := Lib.hid hG
  have HLR := Lib.hid (fun W (h : JoinG w pg wd x L s y R (g1, g2) W) => HL.out.below (join_below h.bl))
  have HRR := Lib.hid (fun W (h : JoinG w pg wd x L s y R (g1, g2) W) => HRD.out.below (join_below h.bl))
  clear hG
  obtain ⟨⟨⟨s0, s1⟩, s2⟩, ⟨m0, m1, m2⟩, ⟨n0, n1, n2⟩, ⟨z0, z1, z2, z3⟩⟩ := HG0.out.facts
  simp only [Act.put, List.setIfInBounds_toArray, List.set_cons_zero, List.set_cons_succ]
  dsimp only at m0 m1 m2 n0 n1 n2 z2 z3
  go_wp2_with (first
    | (go_at_call 62; go_must (refine (leaf_v pg wd _ _ _ _ _ _ L _ (HLR.out _ HG0.out) _ HNL.out).mono ?_; rintro e w2 ⟨rfl, hb2⟩; have HGa := Lib.hid (HG0.out.next hb2); clear hb2 HG0 HNL; clear s0 s1 s2 m0 m1 m2 n0 n1 n2 z0 z1 z2 z3; obtain ⟨⟨⟨s0, s1⟩, s2⟩, ⟨m0, m1, m2⟩, ⟨n0, n1, n2⟩, ⟨z0, z1, z2, z3⟩⟩ := HGa.out.facts; dsimp only at m0 m1 m2 n0 n1 n2 z2 z3))
    | (go_at_call 84; skip; (refine (branch_v pg wd _ _ _ _ _ _ L _ (HLR.out _ HGa.out) _ HB1.out).mono ?_; rintro e w2 ⟨rfl, hb2⟩; have HG1 := Lib.hid (HGa.out.next hb2); clear hb2 HGa HB1; clear s0 s1 s2 m0 m1 m2 n0 n1 n2 z0 z1 z2 z3; obtain ⟨⟨⟨s0, s1⟩, s2⟩, ⟨m0, m1, m2⟩, ⟨n0, n1, n2⟩, ⟨z0, z1, z2, z3⟩⟩ := HG1.out.facts; dsimp only at m0 m1 m2 n0 n1 n2 z2 z3))
    | (go_at_call 84; go_must (refine (branch_v pg wd _ _ _ _ _ _ R _ (HRR.out _ HG1.out) _ HB2.out).mono ?_; rintro e w3 ⟨rfl, hb3⟩; have HG2 := Lib.hid (HG1.out.next hb3); clear hb3 HG1 HB2; clear s0 s1 s2 m0 m1 m2 n0 n1 n2 z0 z1 z2 z3; obtain ⟨⟨⟨s0, s1⟩, s2⟩, ⟨m0, m1, m2⟩, ⟨n0, n1, n2⟩, ⟨z0, z1, z2, z3⟩⟩ := HG2.out.facts; dsimp only at m0 m1 m2 n0 n1 n2 z2 z3)))
  refine wp_region_grow (by kernel_rfl) (by kernel_rfl) ?_
  repeat (any_goals (first | go_big_quiet_step ((go_at_call 63; exact quiet_below (maxKey_c pg wd _ h0 h1))) | quiet_step ((go_at_call 63; exact quiet_below (maxKey_c pg wd _ h0 h1)))))
  refine wpQuiet_nil ?_
  intro w3 hb
  have HG3 := Lib.hid (HG2.out.next hb)
  clear hb HG2
  clear s0 s1 s2 m0 m1 m2 n0 n1 n2 z0 z1 z2 z3; obtain ⟨⟨⟨s0, s1⟩, s2⟩, ⟨m0, m1, m2⟩, ⟨n0, n1, n2⟩, ⟨z0, z1, z2, z3⟩⟩ := HG3.out.facts; dsimp only at m0 m1 m2 n0 n1 n2 z2 z3
  go_wp2
  have hm := HM.out
  obtain ⟨ab, ao, ax, ak⟩ := seps_at (HLR.out _ HG3.out).seps (show m < L.seps.length by omega)
  rw [← sepAt_get (show m < L.seps.length by omega), HLK.out] at ak
  have hm0 : ((m : Int) + 1 == 0) = false := by rw [beq_eq_false_iff_ne]; omega
  have hmb : m ≤ 140737488355328 := by omega
  have ab3 : ab < w3.heap.size := World.block_lt_of_cell? _ _ ak
  rw [ax, hm] at m1; clear hm
  refine wp_region_grow (by kernel_rfl) (by kernel_rfl) ?_
  repeat (any_goals (first | go_big_quiet_step (fail) | quiet_step (fail)))
  refine wpQuiet_nil ?_
  intro w4 hb
  have HG4 := Lib.hid (HG3.out.next hb)
  clear hb HG3
  clear s0 s1 s2 m0 m1 m2 n0 n1 n2 z0 z1 z2 z3; obtain ⟨⟨⟨s0, s1⟩, s2⟩, ⟨m0, m1, m2⟩, ⟨n0, n1, n2⟩, ⟨z0, z1, z2, z3⟩⟩ := HG4.out.facts; dsimp only at m0 m1 m2 n0 n1 n2 z2 z3
  go_wp2
  clear ak ab3 ax
  have hn := HNN.out
  obtain ⟨bb, bo, bx, bk⟩ := seps_at (HRR.out _ HG4.out).seps (show 0 < R.seps.length by omega)
  rw [← sepAt_get (show 0 < R.seps.length by omega), HRK.out] at bk
  have bb4 : bb < w4.heap.size := World.block_lt_of_cell? _ _ bk
  simp only [Nat.add_zero] at bk
  rw [bx, hn] at n1; clear hn
  refine wp_region_grow (by kernel_rfl) (by kernel_rfl) ?_
  repeat (any_goals (first | go_big_quiet_step (fail) | quiet_step (fail)))
  refine wpQuiet_nil ?_
  intro w5 hb
  have HG5 := Lib.hid (HG4.out.next hb)
  clear hb HG4
  clear s0 s1 s2 m0 m1 m2 n0 n1 n2 z0 z1 z2 z3; obtain ⟨⟨⟨s0, s1⟩, s2⟩, ⟨m0, m1, m2⟩, ⟨n0, n1, n2⟩, ⟨z0, z1, z2, z3⟩⟩ := HG5.out.facts; dsimp only at m0 m1 m2 n0 n1 n2 z2 z3
  clear bk bb4 bx
  go_wp2_with (first
    | (go_at_call 86; go_must (refine (putS_at x.A1 _ x.c1 1 L.seps [s] _ ((HLR.out _ HG5.out).seps.below ((Below.refl _ _).alloc (Nat.le_refl _) _)) (sep_row _ _) HL.out.hcs (by have := HRM.out; simp only [List.length_singleton]; omega) L.seps.length 0 _ _ rfl rfl (by omega) LS (by simpa using HLS.out)).mono ?_; rintro e w6 ⟨⟨A, c, rfl, hown⟩, hb6⟩; have HG6 := Lib.hid (HG5.out.next (below_a hb6)); have HO := Lib.hid hown; have h56 := (below_a hb6).size; have h56' := hb6.size; clear hown hb6 HG5; clear s0 s1 s2 m0 m1 m2 n0 n1 n2 z0 z1 z2 z3)))
  simp only [World.size_alloc] at h56'
  have hrows := And.intro HG6.out.rl HG6.out.rr
  dsimp only at hrows
  refine wp_region_tree (S := fun W => W.heap[g1]? = some (.cells (node3 x L) 29 (0, 0)) ∧ W.heap[g2]? = some (.cells (node3 y R) 29 (0, 0))) (.take 0 (.take 1 (.take 2 (.take 3 (.take 4 (.take 5 (.take 6 (.take 8 (.take 9 (.take 10 (.take 11 (.take 12 (.run 7 (.run 13 (.take 14 (.run 15 (.take 16 (.done)))))))))))))))))) (by kernel_rfl) (by kernel_rfl) (by kernel_rfl) (fun _ _ d _ _ h => by cases d <;> exact h) hrows ?_
  repeat (apply tree_take; (exact rfl); rfl; (intro W hW; have q0 := cell_of_row _ _ 2 _ _ _ hW.1; have q1 := cell_of_row _ _ 2 _ _ _ hW.2; have q2 := cell_of_row _ _ 1 _ _ _ hW.2; simp only [List.getElem?_toArray, List.getElem?_cons_zero, List.getElem?_cons_succ] at q0 q1 q2; go_simp; (try with_reducible rfl)); simp only [Act.put, List.setIfInBounds_toArray, List.set_cons_zero, List.set_cons_succ])
  apply tree_run; (exact rfl); rfl; intro K hK; go_simp
  refine (putK_at x.A2 y.A2 x.c2 y.c2 L.kids R.kids _ (HL.out.kids.below (join_below HG6.out.bl.drew)) (HRD.out.kids.below (join_below HG6.out.bl.drew)) HL.out.hck HRK2.out L.kids.length 0 _ _ rfl rfl (by omega) HL.out.kk KK (by simpa using HKK.out)).mono ?_
  rintro e w7 ⟨⟨B, d, rfl, hown7⟩, hb7⟩
  have HO7 := Lib.hid hown7
  clear hown7
  have hB7 := join_next HG6.out.bl.drew hb7
  have hr1 := hrows.1
  have hr2 := hrows.2
  have hgl1 := (Array.getElem?_eq_some_iff.1 hr1).1
  have hgl2 := (Array.getElem?_eq_some_iff.1 hr2).1
  have hrow7 := And.intro ((hb7.block g1 hgl1).trans hr1) ((hb7.block g2 hgl2).trans hr2)
  refine hK.out _ _ hrow7 (fun _ => ?_)
  clear hK K
  try simp only [Act.put, List.setIfInBounds_toArray, List.set_cons_zero, List.set_cons_succ]
  apply tree_run; (exact rfl); rfl; intro K hK; go_simp
  refine (putS_at A y.A1 c y.c1 LS R.seps _ ((own_rd' HO.out).2.below (Below.trans (b := w6.drew) (Below.refl w6.heap.size w6).drew hb7)) (HRD.out.seps.below (join_below hB7)) (own_rd' HO.out).1 (by rw [HLSL.out]; have := HRM.out; omega) LS.length 0 _ _ rfl rfl (by omega) SS (by simpa using HSS.out)).mono ?_
  rintro e w8 ⟨⟨C, f, rfl, hown8⟩, hb8⟩
  have HO8 := Lib.hid hown8
  clear hown8
  have hB8 := join_next hB7 hb8
  have hrow8 := And.intro ((hb8.block g1 (Nat.lt_of_lt_of_le hgl1 hb7.size)).trans hrow7.1) ((hb8.block g2 (Nat.lt_of_lt_of_le hgl2 hb7.size)).trans hrow7.2)
  refine hK.out _ _ hrow8 (fun _ => ?_)
  clear hK K
  try simp only [Act.put, List.setIfInBounds_toArray, List.set_cons_zero, List.set_cons_succ]
  repeat (apply tree_take; (exact rfl); rfl; (intro W hW; have q0 := cell_of_row _ _ 2 _ _ _ hW.1; have q1 := cell_of_row _ _ 2 _ _ _ hW.2; have q2 := cell_of_row _ _ 1 _ _ _ hW.2; simp only [List.getElem?_toArray, List.getElem?_cons_zero, List.getElem?_cons_succ] at q0 q1 q2; go_simp; (try with_reducible rfl)); simp only [Act.put, List.setIfInBounds_toArray, List.set_cons_zero, List.set_cons_succ])
  apply tree_run; (exact rfl); rfl; intro K hK
  have hg := join_row hB8
  have hl1 := HG6.out.ll
  have hl2 := HG6.out.lr
  dsimp only at hl1 hl2
  refine wp_store_row 29 (.tmp 4) (.tmp 167) rfl (w.heap.size + 1 + 1) #[.slice none 0 0, .slice C SS.length f, .slice B KK.length d] rfl rfl 29 zero3 hg info29' rfl (sl3_one _ _ _ _ _ _ _ _ _) ?_
  refine hK.out _ _ ⟨(setRow_other _ _ _ _ (by omega)).trans hrow8.1, (setRow_other _ _ _ _ (by omega)).trans hrow8.2⟩ (fun _ => ?_)
  clear hK K
  try simp only [Act.put]
  repeat (apply tree_take; (exact rfl); rfl; (intro W hW; have q0 := cell_of_row _ _ 2 _ _ _ hW.1; have q1 := cell_of_row _ _ 2 _ _ _ hW.2; have q2 := cell_of_row _ _ 1 _ _ _ hW.2; simp only [List.getElem?_toArray, List.getElem?_cons_zero, List.getElem?_cons_succ] at q0 q1 q2; go_simp; (try with_reducible rfl)); simp only [Act.put, List.setIfInBounds_toArray, List.set_cons_zero, List.set_cons_succ])
  refine tree_done ?_
  go_wp2
  refine bodyPost_ret (results_ct rfl _ _ (w.heap.size + 1 + 1) 29 #[.slice none 0 0, .slice C SS.length f, .slice B KK.length d] (0, 0) _ rfl (setRow_block _ _ _ _ _ _ hg) Try.underlying29 rfl info29') rfl ?_
  have hlenS : SS.length = L.seps.length + 1 + R.seps.length := by rw [← HSS.out, List.length_append, HLSL.out]
  have hlenK : KK.length = L.kids.length + R.kids.length := by rw [← HKK.out, List.length_append]
  have hs6 := join_size HG6.out.bl
  have hs7 : w6.heap.size ≤ w7.heap.size := hb7.size
  have hs8 := hb8.size
  have hO := OwN.branch (ownsRow_mono' (base' := w.heap.size + 1 + 1 + 1) (own_below HO7.out hb8) (show w.heap.size + 1 + 1 + 1 ≤ w6.heap.size from hs6)) (ownsRow_mono' (base' := w.heap.size + 1 + 1 + 1) HO8.out (by omega)) (Nat.le_refl _) (by rw [hlenK]; exact HRK2.out) (by rw [hlenS]; have := HRM.out; omega) (fun q hq => by rw [← HKK.out] at hq; exact (List.mem_append.1 hq).elim (HL.out.kk q) (HRD.out.kk q)) (fun q hq => by rw [← HSS.out] at hq; exact (List.mem_append.1 hq).elim (fun hq => by rw [← HLS.out] at hq; exact (List.mem_append.1 hq).elim (HL.out.sk q) (fun h => by rw [List.mem_singleton.1 h]; exact HSM.out)) (HRD.out.sk q))
  exact join_fin_branch w _ pg wd L R s HE.out HK.out SS (by rw [HLS.out, HSS.out]) KK HKK.out B C d f (below_setRow (join_below hB8) (by omega) _) ((hO.setRow' _ _ (.inl (by omega))).wide (by omega) (by simp [World.setRow]))


end Go.Proofs.Ytajkoeodabmgeaa

