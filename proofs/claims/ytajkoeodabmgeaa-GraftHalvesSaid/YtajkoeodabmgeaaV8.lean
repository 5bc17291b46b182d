import Derived.Test.YtajkoeodabmgeaaZ11
namespace Go.Proofs.Ytajkoeodabmgeaa
open Go.RowKit
set_option maxHeartbeats 2000000
set_option maxRecDepth 100000
attribute [local go_sem] grow_cell grow_frozen grow_size

theorem right_v (pg wd : Int) (w : World) (b : Bool) (hb : right pg wd = b) :
    Calls Try.prog 41 #[vF pg wd] w fun e w' => e = .returned (.bool b) ∧ Below w.heap.size w w' := by
  subst hb; exact right_c pg wd w
theorem full_v (pg wd : Int) (A0 A1 A2 : Option Addr) (c0 c1 c2 : Nat) (nd : NodeD) (w : World) (hN : RdN w A0 c0 A1 c1 A2 c2 nd) (b : Bool) (hb : fullB pg wd nd = b) :
    Calls Try.prog 35 #[vF pg wd, vN A0 c0 A1 c1 A2 c2 nd] w fun e w' => e = .returned (.bool b) ∧ Below w.heap.size w w' := by
  subst hb; exact full_c pg wd A0 A1 A2 c0 c1 c2 nd w hN
theorem thin_v (pg wd : Int) (A0 A1 A2 : Option Addr) (c0 c1 c2 : Nat) (nd : NodeD) (w : World) (hN : RdN w A0 c0 A1 c1 A2 c2 nd) (b : Bool) (hb : thinB pg wd nd = b) :
    Calls Try.prog 37 #[vF pg wd, vN A0 c0 A1 c1 A2 c2 nd] w fun e w' => e = .returned (.bool b) ∧ Below w.heap.size w w' := by
  subst hb; exact thin_c pg wd A0 A1 A2 c0 c1 c2 nd w hN
theorem size_v (pg wd : Int) (A0 A1 A2 : Option Addr) (c0 c1 c2 : Nat) (nd : NodeD) (w : World) (hN : RdN w A0 c0 A1 c1 A2 c2 nd) (b : Int) (hb : sizeE pg wd nd = b) :
    Calls Try.prog 40 #[vF pg wd, vN A0 c0 A1 c1 A2 c2 nd] w fun e w' => e = .returned (.int .i64 b) ∧ Below w.heap.size w w' := by
  subst hb; exact Size_c pg wd A0 A1 A2 c0 c1 c2 nd w hN
theorem not_full {pg wd : Int} {nd : NodeD} (h : sizeE pg wd nd ≤ pg - 32) : fullB pg wd nd = false := by
  rw [fullB, decide_eq_false_iff_not]; omega
theorem not_thin {pg wd : Int} {nd : NodeD} (h : pg - 32 ≤ 3 * sizeE pg wd nd) : thinB pg wd nd = false := by
  rw [thinB, decide_eq_false_iff_not]; omega

theorem halves_law (pg wd : Int) (A0 A1 A2 : Option Addr) (c0 c1 c2 : Nat) (nd : NodeD) (w : World) (hN : RdN w A0 c0 A1 c1 A2 c2 nd) (hR : Room 4 nd) :
    Calls Try.prog 10 #[vF pg wd, vN A0 c0 A1 c1 A2 c2 nd] w fun e w' => e = .returned (.bool true) ∧ Below w.heap.size w w' := by
  have HN := Lib.hid hN
  have HR := Lib.hid hR
  clear hN hR
  go_enter Try.func10, Try.ntmps10
  go_wp2
  refine region_mid (α := VH) (fun b a => ((((a.put (some 10) (vF pg wd)).put (some 11) (vN A0 c0 A1 c1 A2 c2 nd)).put (some 12) (vN b.A0 b.c0 b.A1 b.c1 b.A2 b.c2 nd)).put (some 13) (.int .i64 (sizeE pg wd nd))).put (some 5) (.int .i64 (sizeE pg wd nd)))
    (fun _ W => Below (w.heap.size + 1 + 1) (law2W w (.int .i64 pg) (.int .i64 wd) (.slice A0 nd.pairs.length c0) (.slice A1 nd.seps.length c1) (.slice A2 nd.kids.length c2)) W) ?first ?later
  case first =>
    have hS1 : Below (w.heap.size + 1 + 1) (law2W w (.int .i64 pg) (.int .i64 wd) (.slice A0 nd.pairs.length c0) (.slice A1 nd.seps.length c1) (.slice A2 nd.kids.length c2)) (law2W w (.int .i64 pg) (.int .i64 wd) (.slice A0 nd.pairs.length c0) (.slice A1 nd.seps.length c1) (.slice A2 nd.kids.length c2)) := Below.refl _ _
    have HF := Lib.hid (fun W (h : Below (w.heap.size + 1 + 1) (law2W w (.int .i64 pg) (.int .i64 wd) (.slice A0 nd.pairs.length c0) (.slice A1 nd.seps.length c1) (.slice A2 nd.kids.length c2)) W) => two_boxes h)
    refine wp_region_tree (S := Below (w.heap.size + 1 + 1) (law2W w (.int .i64 pg) (.int .i64 wd) (.slice A0 nd.pairs.length c0) (.slice A1 nd.seps.length c1) (.slice A2 nd.kids.length c2)))
      (.take 0 (.take 1 (.run 2 (.run 3 (.take 4 (.done)))))) (by kernel_rfl) (by kernel_rfl) (by kernel_rfl) (by rintro c a d v W ⟨X, h, _⟩; cases h) hS1.drew ?_
    repeat (apply tree_take; (exact rfl); rfl; (intro W hW; obtain ⟨⟨q0, q1⟩, ⟨q2, q3, q4⟩, q5⟩ := HF.out W hW; go_simp; (try with_reducible rfl)); simp only [Act.put, List.setIfInBounds_toArray, List.set_cons_zero, List.set_cons_succ])
    have hS1 := hS1.drew
    apply tree_run; (exact rfl); rfl; intro K hK; go_simp
    refine (lent_c A0 A1 A2 c0 c1 c2 nd _ (HN.out.below (law2_below hS1)) HR.out).mono ?_
    rintro e w1 ⟨B0, d0, B1, d1, B2, d2, rfl, hown, hb1⟩
    have hS2 := law2_next hS1 hb1
    have HX := Lib.hid (OwN.rd hown).short
    clear hown
    refine hK.out _ _ hS2 (fun _ => ?_)
    clear hK K
    try simp only [Act.put, List.setIfInBounds_toArray, List.set_cons_zero, List.set_cons_succ]
    apply tree_run; (exact rfl); rfl; intro K hK; go_simp
    refine (Size_c pg wd B0 B1 B2 d0 d1 d2 nd _ HX.out).mono ?_
    rintro e w2 ⟨rfl, hb2⟩
    have hS3 := law2_next hS2 hb2
    refine hK.out _ _ hS3 (fun _ => ?_)
    clear hK K
    try simp only [Act.put, List.setIfInBounds_toArray, List.set_cons_zero, List.set_cons_succ]
    repeat (apply tree_take; (exact rfl); rfl; (intro W hW; go_simp; (try with_reducible rfl)); simp only [Act.put, List.setIfInBounds_toArray, List.set_cons_zero, List.set_cons_succ])
    exact tree_done ⟨⟨B0, d0, B1, d1, B2, d2⟩, rfl, rfl, hS3⟩
  case later =>
  rintro ⟨B0, d0, B1, d1, B2, d2⟩ W0 hW0
  obtain ⟨⟨s0, s1⟩, ⟨s2, s3, s4⟩, s5⟩ := two_boxes hW0
  simp only [Act.put, List.setIfInBounds_toArray, List.set_cons_zero, List.set_cons_succ]
  by_cases hcase : right pg wd = true ∧ pg - 32 < sizeE pg wd nd ∧ sizeE pg wd nd ≤ pg - 32 + 2 * ((pg - 30) / 3)
  rotate_left
  · cases hr : right pg wd with
    | false =>
      have HRI := Lib.hid hr
      clear hr hcase
      go_wp2_with (first
        | (go_at_call 41; refine (right_v pg wd _ _ HRI.out).mono ?_; rintro e w7 ⟨rfl, hb7⟩)
        | (go_at_call 20; refine (awake_c _).mono ?_; rintro e w8 ⟨rfl, hb8⟩))
      go_ret
      exact ⟨rfl, law2_below (law2_next (law2_next hW0 hb7) hb8)⟩
    | true =>
      have HRI := Lib.hid hr
      obtain ⟨⟨u0, u1⟩, _, _⟩ := right_spec hr
      have hq : ¬ (pg - 32 < sizeE pg wd nd ∧ sizeE pg wd nd ≤ pg - 32 + 2 * ((pg - 30) / 3)) := fun h => hcase ⟨hr, h⟩
      clear hr hcase
      generalize sizeE pg wd nd = S at *
      by_cases h1 : S ≤ pg - 32
      · clear hq
        go_wp2_with (first
          | (go_at_call 41; refine (right_v _ wd _ _ HRI.out).mono ?_; rintro e w7 ⟨rfl, hb7⟩; clear s0 s1 s2 s3 s4; obtain ⟨⟨s0, s1⟩, ⟨s2, s3, s4⟩, _⟩ := two_boxes (law2_next hW0 hb7))
          | (go_at_call 20; refine (awake_c _).mono ?_; rintro e w8 ⟨rfl, hb8⟩))
        go_ret
        exact ⟨rfl, law2_below (law2_next (law2_next hW0 hb7) hb8)⟩
      · have h2 : pg - 32 + 2 * ((pg - 30) / 3) < S := by omega
        clear hq
        go_wp2_with (first
          | (go_at_call 41; refine (right_v _ wd _ _ HRI.out).mono ?_; rintro e w7 ⟨rfl, hb7⟩; clear s0 s1 s2 s3 s4; obtain ⟨⟨s0, s1⟩, ⟨s2, s3, s4⟩, _⟩ := two_boxes (law2_next hW0 hb7))
          | (go_at_call 20; refine (awake_c _).mono ?_; rintro e w8 ⟨rfl, hb8⟩))
        go_ret
        exact ⟨rfl, law2_below (law2_next (law2_next hW0 hb7) hb8)⟩
  · obtain ⟨hr, h1, h2⟩ := hcase
    have HRI := Lib.hid hr
    obtain ⟨⟨u0, u1⟩, _, _⟩ := right_spec hr
    have hplain := Lib.hid (halves_plain hr h1 h2)
    clear hr
    generalize hS : sizeE pg wd nd = S at *
    clear hS
    have h3 := Int.not_le.2 h1
    have h4 := Int.not_lt.2 h2
    clear h1 h2
    go_wp2_with (first
      | (go_at_call 41; refine (right_v _ wd _ _ HRI.out).mono ?_; rintro e w7 ⟨rfl, hb7⟩; have hW7 := law2_next hW0 hb7; clear s0 s1 s2 s3 s4; obtain ⟨⟨s0, s1⟩, ⟨s2, s3, s4⟩, _⟩ := two_boxes hW7))
    refine region_mid (α := SplitX) (fun X a => ((((((((a.put (some 39) (vF pg wd)).put (some 40) (vN A0 c0 A1 c1 A2 c2 nd)).put (some 41) (vN X.b.A0 X.b.c0 X.b.A1 X.b.c1 X.b.A2 X.b.c2 nd)).put (some 42) (.tuple #[vH X.x (splitL pg wd nd) (splitS pg wd nd) X.y (splitR pg wd nd), .int .i64 (splitE pg wd nd)])).put (some 38) (.tuple #[vH X.x (splitL pg wd nd) (splitS pg wd nd) X.y (splitR pg wd nd), .int .i64 (splitE pg wd nd)])).put (some 43) (vH X.x (splitL pg wd nd) (splitS pg wd nd) X.y (splitR pg wd nd))).put (some 44) (.int .i64 (splitE pg wd nd))).put (some 6) (.pointer (some ⟨X.g, 0, none⟩))).put (some 7) (.int .i64 (splitE pg wd nd))) (fun X W => SplitG w (law2W w (.int .i64 pg) (.int .i64 wd) (.slice A0 nd.pairs.length c0) (.slice A1 nd.seps.length c1) (.slice A2 nd.kids.length c2)) (w.heap.size + 1 + 1) pg wd nd X W) ?region ?rest
    case region =>
      have hS1 : Below (w.heap.size + 1 + 1) (law2W w (.int .i64 pg) (.int .i64 wd) (.slice A0 nd.pairs.length c0) (.slice A1 nd.seps.length c1) (.slice A2 nd.kids.length c2)) (w7) := hW7
      have HF := Lib.hid (fun W (h : Below (w.heap.size + 1 + 1) (law2W w (.int .i64 pg) (.int .i64 wd) (.slice A0 nd.pairs.length c0) (.slice A1 nd.seps.length c1) (.slice A2 nd.kids.length c2)) W) => two_boxes h)
      refine wp_region_tree (S := Below (w.heap.size + 1 + 1) (law2W w (.int .i64 pg) (.int .i64 wd) (.slice A0 nd.pairs.length c0) (.slice A1 nd.seps.length c1) (.slice A2 nd.kids.length c2)))
        (.take 0 (.take 1 (.two 2 7 (.two 3 7 (.take 4 (.take 5 (.take 6 (.run 7 (.run 8 (.take 9 (.done))))))) (.run 3 (.take 4 (.take 5 (.take 6 (.run 8 (.take 9 (.done)))))))) (.run 2 (.run 3 (.take 4 (.take 5 (.take 6 (.run 8 (.take 9 (.done)))))))))))
        (by kernel_rfl) (by kernel_rfl) (by kernel_rfl) (by rintro c a d v W ⟨X, h, _⟩; cases h) hS1.drew ?_
      repeat (apply tree_take; (exact rfl); rfl; (intro W hW; obtain ⟨⟨q0, q1⟩, ⟨q2, q3, q4⟩, q5⟩ := HF.out W hW; go_simp; (try with_reducible rfl)); simp only [Act.put, List.setIfInBounds_toArray, List.set_cons_zero, List.set_cons_succ])
      have hS1 := hS1.drew
      refine tree_two ?_ ?_
      ·
        apply tree_run; (exact rfl); rfl; intro K hK; go_simp
        refine (lent_c A0 A1 A2 c0 c1 c2 nd _ (HN.out.below (law2_below hS1)) HR.out).mono ?_
        rintro e w1 ⟨B0, d0, B1, d1, B2, d2, rfl, hown, hb1⟩
        have hS2 := law2_next hS1 hb1
        have HX := Lib.hid (OwN.rd hown).short
        clear hown
        refine hK.out _ _ hS2 (fun _ => ?_)
        clear hK K
        try simp only [Act.put, List.setIfInBounds_toArray, List.set_cons_zero, List.set_cons_succ]
        refine tree_two ?_ ?_
        ·
          apply tree_run; (exact rfl); rfl; intro K hK; go_simp
          refine (split_c pg wd B0 B1 B2 d0 d1 d2 nd _ HX.out).mono ?_
          rintro e w2 ⟨x, y, mid, rfl, hx, hy, hb2, hmid⟩
          have hS3 := law2_next hS2 hb2
          have hx := OwN.top hx
          have hy := OwN.top hy
          have HXX := Lib.hid hx
          have HYY := Lib.hid hy
          clear hx hy
          refine hK.out _ _ hS3 (fun _ => ?_)
          clear hK K
          try simp only [Act.put, List.setIfInBounds_toArray, List.set_cons_zero, List.set_cons_succ]
          repeat (apply tree_take; (exact rfl); rfl; (intro W hW; obtain ⟨⟨q0, q1⟩, ⟨q2, q3, q4⟩, q5⟩ := HF.out W hW; go_simp; (try with_reducible rfl)); simp only [Act.put, List.setIfInBounds_toArray, List.set_cons_zero, List.set_cons_succ])
          apply tree_run; (exact rfl); rfl; intro K hK; go_simp
          have hS3a := hS3.alloc (law2_size hS3) (.cells zero7 54)
          refine hK.out _ _ hS3a (fun _ => ?_)
          clear hK K
          try simp only [Act.put, List.setIfInBounds_toArray, List.set_cons_zero, List.set_cons_succ]
          have hrow := heap_alloc_new w2 (.cells zero7 54)
          have hG := splitG_store (w := w) ⟨B0, d0, B1, d1, B2, d2⟩ x y (w2.heap.size) hS3a hrow (law2_size hS3) (OwN.below HXX.out ((Below.refl _ _).alloc (Nat.le_refl _) _)) (.inr (Nat.le_refl _)) (OwN.below HYY.out ((Below.refl _ _).alloc (Nat.le_refl _) _)) (.inr (Nat.le_refl _))
          apply tree_run; (exact rfl); rfl; intro K hK
          refine wp_store_row 54 (.tmp 6) (.tmp 43) rfl (w2.heap.size) (cells7 x (splitL pg wd nd) (splitS pg wd nd) y (splitR pg wd nd)) rfl rfl 54 zero7 hrow info54 rfl (own7 x y _ _ _) ?_
          refine hK.out _ _ hG.bl (fun _ => ?_)
          clear hK K
          try simp only [Act.put]
          repeat (apply tree_take; (exact rfl); rfl; (intro W hW; obtain ⟨⟨q0, q1⟩, ⟨q2, q3, q4⟩, q5⟩ := HF.out W hW; go_simp; (try with_reducible rfl)); simp only [Act.put, List.setIfInBounds_toArray, List.set_cons_zero, List.set_cons_succ])
          exact tree_done ⟨⟨⟨B0, d0, B1, d1, B2, d2⟩, x, y, w2.heap.size⟩, rfl, rfl, hG⟩
        ·
          apply tree_run; (exact rfl); rfl; intro K hK; go_simp
          have hS2a := hS2.alloc (law2_size hS2) (.cells zero7 54)
          refine hK.out _ _ hS2a (fun _ => ?_)
          clear hK K
          try simp only [Act.put, List.setIfInBounds_toArray, List.set_cons_zero, List.set_cons_succ]
          apply tree_run; (exact rfl); rfl; intro K hK; go_simp
          refine (split_c pg wd B0 B1 B2 d0 d1 d2 nd _ (HX.out.below ((Below.refl _ _).alloc (Nat.le_refl _) _))).mono ?_
          rintro e w2 ⟨x, y, mid, rfl, hx, hy, hb2, hmid⟩
          have hS3 := law2_next hS2a hb2
          have hx := OwN.top hx
          have hy := OwN.top hy
          have HXX := Lib.hid hx
          have HYY := Lib.hid hy
          clear hx hy
          refine hK.out _ _ hS3 (fun _ => ?_)
          clear hK K
          try simp only [Act.put, List.setIfInBounds_toArray, List.set_cons_zero, List.set_cons_succ]
          repeat (apply tree_take; (exact rfl); rfl; (intro W hW; obtain ⟨⟨q0, q1⟩, ⟨q2, q3, q4⟩, q5⟩ := HF.out W hW; go_simp; (try with_reducible rfl)); simp only [Act.put, List.setIfInBounds_toArray, List.set_cons_zero, List.set_cons_succ])
          have hmid : w1.heap.size + 1 ≤ mid := by simpa using hmid
          have hrow := ((hb2.block w1.heap.size (by simp)).trans (heap_alloc_new w1 (.cells zero7 54)))
          have hG := splitG_store (w := w) ⟨B0, d0, B1, d1, B2, d2⟩ x y (w1.heap.size) hS3 hrow (law2_size hS2) HXX.out (.inl (by simp)) HYY.out (.inl (by omega))
          apply tree_run; (exact rfl); rfl; intro K hK
          refine wp_store_row 54 (.tmp 6) (.tmp 43) rfl (w1.heap.size) (cells7 x (splitL pg wd nd) (splitS pg wd nd) y (splitR pg wd nd)) rfl rfl 54 zero7 hrow info54 rfl (own7 x y _ _ _) ?_
          refine hK.out _ _ hG.bl (fun _ => ?_)
          clear hK K
          try simp only [Act.put]
          repeat (apply tree_take; (exact rfl); rfl; (intro W hW; obtain ⟨⟨q0, q1⟩, ⟨q2, q3, q4⟩, q5⟩ := HF.out W hW; go_simp; (try with_reducible rfl)); simp only [Act.put, List.setIfInBounds_toArray, List.set_cons_zero, List.set_cons_succ])
          exact tree_done ⟨⟨⟨B0, d0, B1, d1, B2, d2⟩, x, y, w1.heap.size⟩, rfl, rfl, hG⟩
      ·
        have hnew : ((w7).drew.alloc (.cells zero7 54)).heap[w7.heap.size]? = some (.cells zero7 54 (0, 0)) := by
          have h := heap_alloc_new (w7).drew (.cells zero7 54)
          have e : (w7).drew.heap.size = w7.heap.size := by first | rfl | simp
          rw [e] at h; exact h
        apply tree_run; (exact rfl); rfl; intro K hK; go_simp
        have hS1a := hS1.alloc (law2_size hS1) (.cells zero7 54)
        refine hK.out _ _ hS1a (fun _ => ?_)
        clear hK K
        try simp only [Act.put, List.setIfInBounds_toArray, List.set_cons_zero, List.set_cons_succ]
        apply tree_run; (exact rfl); rfl; intro K hK; go_simp
        refine (lent_c A0 A1 A2 c0 c1 c2 nd _ (HN.out.below (law2_below hS1a)) HR.out).mono ?_
        rintro e w1 ⟨B0, d0, B1, d1, B2, d2, rfl, hown, hb1⟩
        have hS2 := law2_next hS1a hb1
        have HX := Lib.hid (OwN.rd hown).short
        clear hown
        refine hK.out _ _ hS2 (fun _ => ?_)
        clear hK K
        try simp only [Act.put, List.setIfInBounds_toArray, List.set_cons_zero, List.set_cons_succ]
        apply tree_run; (exact rfl); rfl; intro K hK; go_simp
        refine (split_c pg wd B0 B1 B2 d0 d1 d2 nd _ HX.out).mono ?_
        rintro e w2 ⟨x, y, mid, rfl, hx, hy, hb2, hmid⟩
        have hS3 := law2_next hS2 hb2
        have hx := OwN.top hx
        have hy := OwN.top hy
        have HXX := Lib.hid hx
        have HYY := Lib.hid hy
        clear hx hy
        refine hK.out _ _ hS3 (fun _ => ?_)
        clear hK K
        try simp only [Act.put, List.setIfInBounds_toArray, List.set_cons_zero, List.set_cons_succ]
        repeat (apply tree_take; (exact rfl); rfl; (intro W hW; obtain ⟨⟨q0, q1⟩, ⟨q2, q3, q4⟩, q5⟩ := HF.out W hW; go_simp; (try with_reducible rfl)); simp only [Act.put, List.setIfInBounds_toArray, List.set_cons_zero, List.set_cons_succ])
        have hlo : w.heap.size + 1 + 1 ≤ w7.heap.size := by first | exact Nat.le_refl _ | exact law2_size (hW7)
        have hsz : w7.heap.size + 1 ≤ w1.heap.size := by have := hb1.size; simp at this; omega
        have hrow := ((hb2.block (w7.heap.size) (by omega)).trans ((hb1.block (w7.heap.size) (by simp)).trans hnew))
        have hG := splitG_store (w := w) ⟨B0, d0, B1, d1, B2, d2⟩ x y (w7.heap.size) hS3 hrow hlo HXX.out (.inl (by omega)) HYY.out (.inl (by omega))
        apply tree_run; (exact rfl); rfl; intro K hK
        refine wp_store_row 54 (.tmp 6) (.tmp 43) rfl (w7.heap.size) (cells7 x (splitL pg wd nd) (splitS pg wd nd) y (splitR pg wd nd)) rfl rfl 54 zero7 hrow info54 rfl (own7 x y _ _ _) ?_
        refine hK.out _ _ hG.bl (fun _ => ?_)
        clear hK K
        try simp only [Act.put]
        repeat (apply tree_take; (exact rfl); rfl; (intro W hW; obtain ⟨⟨q0, q1⟩, ⟨q2, q3, q4⟩, q5⟩ := HF.out W hW; go_simp; (try with_reducible rfl)); simp only [Act.put, List.setIfInBounds_toArray, List.set_cons_zero, List.set_cons_succ])
        exact tree_done ⟨⟨⟨B0, d0, B1, d1, B2, d2⟩, x, y, w7.heap.size⟩, rfl, rfl, hG⟩
    case rest =>
      rintro ⟨b, x, y, g⟩ W hG
      clear s0 s1 s2 s3 s4 h3 h4
      obtain ⟨⟨s0, s1⟩, ⟨s2, s3, s4⟩, _⟩ := two_boxes hG.bl
      obtain ⟨⟨r0, r1, r2⟩, r4, r5, r6⟩ := box7 hG.row
      have hgW : g < W.heap.size := (Array.getElem?_eq_some_iff.1 hG.row).1
      obtain ⟨hE, hP⟩ := hplain.out
      have HL1 := Lib.hid hG.l
      have HR1 := Lib.hid hG.r
      have HBL1 := Lib.hid hG.bl
      have HROW := Lib.hid hG.row
      have HFL := Lib.hid (not_full hP.a1)
      have HFR := Lib.hid (not_full hP.b1)
      have HTL := Lib.hid (not_thin hP.a2)
      have HTR := Lib.hid (not_thin hP.b2)
      obtain ⟨za, hza⟩ : ∃ z, sizeE pg wd (splitL pg wd nd) = z := ⟨_, rfl⟩
      obtain ⟨zb, hzb⟩ : ∃ z, sizeE pg wd (splitR pg wd nd) = z := ⟨_, rfl⟩
      have a1 := hP.a1
      have a2 := hP.a2
      have b1 := hP.b1
      have b2 := hP.b2
      rw [hza] at a1 a2
      rw [hzb] at b1 b2
      have HZL := Lib.hid hza
      have HZR := Lib.hid hzb
      simp only [Act.put, List.setIfInBounds_toArray, List.set_cons_zero, List.set_cons_succ]
      rw [hE]
      clear hG hP hza hzb hplain hE
      generalize splitL pg wd nd = L at *
      generalize splitR pg wd nd = R at *
      generalize splitS pg wd nd = s at *
      go_wp2_with (first
          | (go_at_call 35; skip; (
             refine (full_v pg wd _ _ _ _ _ _ L _ HL1.out _ HFL.out).mono ?_; rintro e wa ⟨rfl, hba⟩
             have HL2 := Lib.hid (HL1.out.below hba)
             have HR2 := Lib.hid (HR1.out.below hba)
             have HBL2 := Lib.hid (law2_next HBL1.out hba)
             have hrow := (hba.block _ hgW).trans HROW.out
             clear hba s0 s1 s2 s3 s4 r0 r1 r2 r4 r5 r6 hgW HL1 HR1 HBL1 HROW
             obtain ⟨⟨s0, s1⟩, ⟨s2, s3, s4⟩, _⟩ := two_boxes HBL2.out
             obtain ⟨⟨r0, r1, r2⟩, r4, r5, r6⟩ := box7 hrow
             have hgW : g < wa.heap.size := (Array.getElem?_eq_some_iff.1 hrow).1
             have HROW := Lib.hid hrow
             clear hrow))
          | (go_at_call 35; go_must (
             refine (full_v pg wd _ _ _ _ _ _ R _ HR2.out _ HFR.out).mono ?_; rintro e wb ⟨rfl, hbb⟩
             have HL3 := Lib.hid (HL2.out.below hbb)
             have HR3 := Lib.hid (HR2.out.below hbb)
             have HBL3 := Lib.hid (law2_next HBL2.out hbb)
             have hrow := (hbb.block _ hgW).trans HROW.out
             clear hbb s0 s1 s2 s3 s4 r0 r1 r2 r4 r5 r6 hgW HL2 HR2 HBL2 HROW
             obtain ⟨⟨s0, s1⟩, ⟨s2, s3, s4⟩, _⟩ := two_boxes HBL3.out
             obtain ⟨⟨r0, r1, r2⟩, r4, r5, r6⟩ := box7 hrow
             have hgW : g < wb.heap.size := (Array.getElem?_eq_some_iff.1 hrow).1
             have HROW := Lib.hid hrow
             clear hrow))
          | (go_at_call 37; skip; (
             refine (thin_v pg wd _ _ _ _ _ _ L _ HL3.out _ HTL.out).mono ?_; rintro e wc ⟨rfl, hbc⟩
             have HL4 := Lib.hid (HL3.out.below hbc)
             have HR4 := Lib.hid (HR3.out.below hbc)
             have HBL4 := Lib.hid (law2_next HBL3.out hbc)
             have hrow := (hbc.block _ hgW).trans HROW.out
             clear hbc s0 s1 s2 s3 s4 r0 r1 r2 r4 r5 r6 hgW HL3 HR3 HBL3 HROW
             obtain ⟨⟨s0, s1⟩, ⟨s2, s3, s4⟩, _⟩ := two_boxes HBL4.out
             obtain ⟨⟨r0, r1, r2⟩, r4, r5, r6⟩ := box7 hrow
             have hgW : g < wc.heap.size := (Array.getElem?_eq_some_iff.1 hrow).1
             have HROW := Lib.hid hrow
             clear hrow))
          | (go_at_call 37; go_must (
             refine (thin_v pg wd _ _ _ _ _ _ R _ HR4.out _ HTR.out).mono ?_; rintro e wm4 ⟨rfl, hbm4⟩
             have HL5 := Lib.hid (HL4.out.below hbm4)
             have HR5 := Lib.hid (HR4.out.below hbm4)
             have HBL5 := Lib.hid (law2_next HBL4.out hbm4)
             have hrow := (hbm4.block _ hgW).trans HROW.out
             clear hbm4 s0 s1 s2 s3 s4 r0 r1 r2 r4 r5 r6 hgW HL4 HR4 HBL4 HROW
             obtain ⟨⟨s0, s1⟩, ⟨s2, s3, s4⟩, _⟩ := two_boxes HBL5.out
             obtain ⟨⟨r0, r1, r2⟩, r4, r5, r6⟩ := box7 hrow
             have hgW : g < wm4.heap.size := (Array.getElem?_eq_some_iff.1 hrow).1
             have HROW := Lib.hid hrow
             clear hrow))
          | (go_at_call 40; skip; (
             refine (size_v pg wd _ _ _ _ _ _ L _ HL5.out _ HZL.out).mono ?_; rintro e we ⟨rfl, hbe⟩
             have HL6 := Lib.hid (HL5.out.below hbe)
             have HR6 := Lib.hid (HR5.out.below hbe)
             have HBL6 := Lib.hid (law2_next HBL5.out hbe)
             have hrow := (hbe.block _ hgW).trans HROW.out
             clear hbe s0 s1 s2 s3 s4 r0 r1 r2 r4 r5 r6 hgW HL5 HR5 HBL5 HROW
             obtain ⟨⟨s0, s1⟩, ⟨s2, s3, s4⟩, _⟩ := two_boxes HBL6.out
             obtain ⟨⟨r0, r1, r2⟩, r4, r5, r6⟩ := box7 hrow
             have hgW : g < we.heap.size := (Array.getElem?_eq_some_iff.1 hrow).1
             have HROW := Lib.hid hrow
             clear hrow))
          | (go_at_call 40; go_must (
             refine (size_v pg wd _ _ _ _ _ _ R _ HR6.out _ HZR.out).mono ?_; rintro e wf ⟨rfl, hbf⟩
             have HL7 := Lib.hid (HL6.out.below hbf)
             have HR7 := Lib.hid (HR6.out.below hbf)
             have HBL7 := Lib.hid (law2_next HBL6.out hbf)
             have hrow := (hbf.block _ hgW).trans HROW.out
             clear hbf s0 s1 s2 s3 s4 r0 r1 r2 r4 r5 r6 hgW HL6 HR6 HBL6 HROW
             obtain ⟨⟨s0, s1⟩, ⟨s2, s3, s4⟩, _⟩ := two_boxes HBL7.out
             obtain ⟨⟨r0, r1, r2⟩, r4, r5, r6⟩ := box7 hrow
             have hgW : g < wf.heap.size := (Array.getElem?_eq_some_iff.1 hrow).1
             have HROW := Lib.hid hrow
             clear hrow))
          | (go_at_call 20; refine (awake_c _).mono ?_; rintro e w8 ⟨rfl, hb8⟩))
      go_ret
      exact ⟨rfl, law2_below (law2_next HBL7.out hb8)⟩

end Go.Proofs.Ytajkoeodabmgeaa
