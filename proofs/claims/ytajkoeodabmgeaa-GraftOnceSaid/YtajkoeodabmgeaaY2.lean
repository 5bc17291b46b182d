import Derived.Test.YtajkoeodabmgeaaZ14
namespace Go.Proofs.Ytajkoeodabmgeaa
open Go.RowKit
set_option maxHeartbeats 4000000
set_option maxRecDepth 100000
attribute [local go_sem] grow_cell grow_frozen grow_size

theorem HalvesPost.rd1 {w w' : World} {BL BR : NodeD} {BS : ByteArray} {a : Value} {e : Ending} (h : HalvesPost w BL BS BR #[a] e w') :
    ∃ x y : VH, e = .returned (.tuple #[vH x BL BS y BR, a]) ∧ RdN w' x.A0 x.c0 x.A1 x.c1 x.A2 x.c2 BL ∧ RdN w' y.A0 y.c0 y.A1 y.c1 y.A2 y.c2 BR ∧ Below w.heap.size w w' := by
  obtain ⟨x, y, mid, he, hx, hy, hb, _⟩ := h
  exact ⟨x, y, he, OwN.rd hx, OwN.rd hy, hb⟩
theorem HalvesPost.rd2 {w w' : World} {BL BR : NodeD} {BS : ByteArray} {a b : Value} {e : Ending} (h : HalvesPost w BL BS BR #[a, b] e w') :
    ∃ x y : VH, e = .returned (.tuple #[vH x BL BS y BR, a, b]) ∧ RdN w' x.A0 x.c0 x.A1 x.c1 x.A2 x.c2 BL ∧ RdN w' y.A0 y.c0 y.A1 y.c1 y.A2 y.c2 BR ∧ Below w.heap.size w w' := by
  obtain ⟨x, y, mid, he, hx, hy, hb, _⟩ := h
  exact ⟨x, y, he, OwN.rd hx, OwN.rd hy, hb⟩
theorem same_w (A0 A1 A2 B0 B1 B2 : Option Addr) (c0 c1 c2 d0 d1 d2 : Nat) (nd nd' : NodeD) (w : World) (he : nd = nd') (hA : RdN w A0 c0 A1 c1 A2 c2 nd) (hB : RdN w B0 d0 B1 d1 B2 d2 nd') :
    Calls Try.prog 50 #[vN A0 c0 A1 c1 A2 c2 nd, vN B0 d0 B1 d1 B2 d2 nd'] w fun e w' => e = .returned (.bool true) ∧ Below w.heap.size w w' := by
  subst he; exact same_c A0 A1 A2 B0 B1 B2 c0 c1 c2 d0 d1 d2 nd w hA hB

theorem full_v2 (pg wd : Int) (A0 A1 A2 : Option Addr) (c0 c1 c2 : Nat) (nd : NodeD) (w : World) (hN : RdN w A0 c0 A1 c1 A2 c2 nd) (b : Bool) (hb : fullB pg wd nd = b) :
    Calls Try.prog 35 #[vF pg wd, vN A0 c0 A1 c1 A2 c2 nd] w fun e w' => e = .returned (.bool b) ∧ Below w.heap.size w w' := by
  subst hb; exact full_c pg wd A0 A1 A2 c0 c1 c2 nd w hN

theorem once_law (pg wd : Int) (A0 A1 A2 : Option Addr) (c0 c1 c2 : Nat) (nd : NodeD) (w : World) (hN : RdN w A0 c0 A1 c1 A2 c2 nd) (hR : Room 4 nd) :
    Calls Try.prog 19 #[vF pg wd, vN A0 c0 A1 c1 A2 c2 nd] w fun e w' => e = .returned (.bool true) ∧ Below w.heap.size w w' := by
  have hJ : splitE pg wd nd = 0 → JoinOk (splitL pg wd nd) (splitS pg wd nd) (splitR pg wd nd) := fun hE => by
    have h := once_plain hE
    exact ⟨by have := h.s; omega, Nat.le_trans (Nat.mul_le_mul_right _ h.p) hN.hp, Nat.le_trans (Nat.mul_le_mul_right _ (show _ ≤ nd.seps.length + 4 by have := h.q; omega)) hR.s, Nat.le_trans (Nat.mul_le_mul_right _ h.k) hN.hk⟩
  have HJ := Lib.hid hJ
  have HN := Lib.hid hN
  have HR := Lib.hid hR
  clear hN hR hJ
  go_enter Try.func19, Try.ntmps19
  go_wp2
  refine region_mid (α := SplitX) (fun X a => ((((((((a.put (some 15) (vF pg wd)).put (some 16) (vN A0 c0 A1 c1 A2 c2 nd)).put (some 17) (vN X.b.A0 X.b.c0 X.b.A1 X.b.c1 X.b.A2 X.b.c2 nd)).put (some 18) (.tuple #[vH X.x (splitL pg wd nd) (splitS pg wd nd) X.y (splitR pg wd nd), .int .i64 (splitE pg wd nd)])).put (some 14) (.tuple #[vH X.x (splitL pg wd nd) (splitS pg wd nd) X.y (splitR pg wd nd), .int .i64 (splitE pg wd nd)])).put (some 19) (vH X.x (splitL pg wd nd) (splitS pg wd nd) X.y (splitR pg wd nd))).put (some 20) (.int .i64 (splitE pg wd nd))).put (some 5) (.pointer (some ⟨X.g, 0, none⟩))).put (some 6) (.int .i64 (splitE pg wd nd))) (fun X W => SplitG w (law2W w (.int .i64 pg) (.int .i64 wd) (.slice A0 nd.pairs.length c0) (.slice A1 nd.seps.length c1) (.slice A2 nd.kids.length c2)) (w.heap.size + 1 + 1) pg wd nd X W) ?region ?rest
  case region =>
    have hS1 : Below (w.heap.size + 1 + 1) (law2W w (.int .i64 pg) (.int .i64 wd) (.slice A0 nd.pairs.length c0) (.slice A1 nd.seps.length c1) (.slice A2 nd.kids.length c2)) (law2W w (.int .i64 pg) (.int .i64 wd) (.slice A0 nd.pairs.length c0) (.slice A1 nd.seps.length c1) (.slice A2 nd.kids.length c2)) := Below.refl _ _
    have HF := Lib.hid (fun W (h : Below (w.heap.size + 1 + 1) (law2W w (.int .i64 pg) (.int .i64 wd) (.slice A0 nd.pairs.length c0) (.slice A1 nd.seps.length c1) (.slice A2 nd.kids.length c2)) W) => two_boxes h)
    refine wp_region_tree (S := Below (w.heap.size + 1 + 1) (law2W w (.int .i64 pg) (.int .i64 wd) (.slice A0 nd.pairs.length c0) (.slice A1 nd.seps.length c1) (.slice A2 nd.kids.length c2)))
      (.take 0 (.take 1 (.two 2 7 (.two 3 7 (.take 4 (.take 5 (.take 6 (.run 7 (.run 8 (.take 9 (.done))))))) (.run 3 (.take 4 (.take 5 (.take 6 (.run 8 (.take 9 (.done)))))))) (.run 2 (.run 3 (.take 4 (.take 5 (.take 6 (.run 8 (.take 9 (.done)))))))))))
      (by kernel_rfl) (by kernel_rfl) (by kernel_rfl) (by rintro c a d v W ⟨X, h, _⟩; cases h) hS1.drew ?_
    repeat (apply tree_take; (exact rfl); rfl; (intro W hW; obtain ⟨⟨q0, q1⟩, ⟨q2, q3, q4⟩, q5⟩ := HF.out W hW; go_simp; (try with_reducible rfl)); simp only [Act.put, List.setIfInBounds_toArray, List.set_cons_zero, List.set_cons_succ])
    have hS1 := hS1.drew
    refine tree_two ?_ ?_
    ·
      apply tree_run; (exact rfl); rfl; intro K hK; go_simp
      refine (lent_c A0 A1 A2 c0 c1 c2 nd _ (HN.out.below (law2_below hS1)) HR.out).mono ?_
      rintro e w1 ⟨B0, d0, B1, d1, B2, d2, rfl, hown, hb1⟩
      have hS2 := law2_next hS1 hb1
      have HX := Lib.hid (OwN.rd hown).short
      clear hown
      refine hK.out _ _ hS2 (fun _ => ?_)
      clear hK K
      try simp only [Act.put, List.setIfInBounds_toArray, List.set_cons_zero, List.set_cons_succ]
      refine tree_two ?_ ?_
      ·
        apply tree_run; (exact rfl); rfl; intro K hK; go_simp
        refine (split_c pg wd B0 B1 B2 d0 d1 d2 nd _ HX.out).mono ?_
        rintro e w2 ⟨x, y, mid, rfl, hx, hy, hb2, hmid⟩
        have hS3 := law2_next hS2 hb2
        have hx := OwN.top hx
        have hy := OwN.top hy
        have HXX := Lib.hid hx
        have HYY := Lib.hid hy
        clear hx hy
        refine hK.out _ _ hS3 (fun _ => ?_)
        clear hK K
        try simp only [Act.put, List.setIfInBounds_toArray, List.set_cons_zero, List.set_cons_succ]
        repeat (apply tree_take; (exact rfl); rfl; (intro W hW; obtain ⟨⟨q0, q1⟩, ⟨q2, q3, q4⟩, q5⟩ := HF.out W hW; go_simp; (try with_reducible rfl)); simp only [Act.put, List.setIfInBounds_toArray, List.set_cons_zero, List.set_cons_succ])
        apply tree_run; (exact rfl); rfl; intro K hK; go_simp
        have hS3a := hS3.alloc (law2_size hS3) (.cells zero7 54)
        refine hK.out _ _ hS3a (fun _ => ?_)
        clear hK K
        try simp only [Act.put, List.setIfInBounds_toArray, List.set_cons_zero, List.set_cons_succ]
        have hrow := heap_alloc_new w2 (.cells zero7 54)
        have hG := splitG_store (w := w) ⟨B0, d0, B1, d1, B2, d2⟩ x y (w2.heap.size) hS3a hrow (law2_size hS3) (OwN.below HXX.out ((Below.refl _ _).alloc (Nat.le_refl _) _)) (.inr (Nat.le_refl _)) (OwN.below HYY.out ((Below.refl _ _).alloc (Nat.le_refl _) _)) (.inr (Nat.le_refl _))
        apply tree_run; (exact rfl); rfl; intro K hK
        refine wp_store_row 54 (.tmp 5) (.tmp 19) rfl (w2.heap.size) (cells7 x (splitL pg wd nd) (splitS pg wd nd) y (splitR pg wd nd)) rfl rfl 54 zero7 hrow info54 rfl (own7 x y _ _ _) ?_
        refine hK.out _ _ hG.bl (fun _ => ?_)
        clear hK K
        try simp only [Act.put]
        repeat (apply tree_take; (exact rfl); rfl; (intro W hW; obtain ⟨⟨q0, q1⟩, ⟨q2, q3, q4⟩, q5⟩ := HF.out W hW; go_simp; (try with_reducible rfl)); simp only [Act.put, List.setIfInBounds_toArray, List.set_cons_zero, List.set_cons_succ])
        exact tree_done ⟨⟨⟨B0, d0, B1, d1, B2, d2⟩, x, y, w2.heap.size⟩, rfl, rfl, hG⟩
      ·
        apply tree_run; (exact rfl); rfl; intro K hK; go_simp
        have hS2a := hS2.alloc (law2_size hS2) (.cells zero7 54)
        refine hK.out _ _ hS2a (fun _ => ?_)
        clear hK K
        try simp only [Act.put, List.setIfInBounds_toArray, List.set_cons_zero, List.set_cons_succ]
        apply tree_run; (exact rfl); rfl; intro K hK; go_simp
        refine (split_c pg wd B0 B1 B2 d0 d1 d2 nd _ (HX.out.below ((Below.refl _ _).alloc (Nat.le_refl _) _))).mono ?_
        rintro e w2 ⟨x, y, mid, rfl, hx, hy, hb2, hmid⟩
        have hS3 := law2_next hS2a hb2
        have hx := OwN.top hx
        have hy := OwN.top hy
        have HXX := Lib.hid hx
        have HYY := Lib.hid hy
        clear hx hy
        refine hK.out _ _ hS3 (fun _ => ?_)
        clear hK K
        try simp only [Act.put, List.setIfInBounds_toArray, List.set_cons_zero, List.set_cons_succ]
        repeat (apply tree_take; (exact rfl); rfl; (intro W hW; obtain ⟨⟨q0, q1⟩, ⟨q2, q3, q4⟩, q5⟩ := HF.out W hW; go_simp; (try with_reducible rfl)); simp only [Act.put, List.setIfInBounds_toArray, List.set_cons_zero, List.set_cons_succ])
        have hmid : w1.heap.size + 1 ≤ mid := by simpa using hmid
        have hrow := ((hb2.block w1.heap.size (by simp)).trans (heap_alloc_new w1 (.cells zero7 54)))
        have hG := splitG_store (w := w) ⟨B0, d0, B1, d1, B2, d2⟩ x y (w1.heap.size) hS3 hrow (law2_size hS2) HXX.out (.inl (by simp)) HYY.out (.inl (by omega))
        apply tree_run; (exact rfl); rfl; intro K hK
        refine wp_store_row 54 (.tmp 5) (.tmp 19) rfl (w1.heap.size) (cells7 x (splitL pg wd nd) (splitS pg wd nd) y (splitR pg wd nd)) rfl rfl 54 zero7 hrow info54 rfl (own7 x y _ _ _) ?_
        refine hK.out _ _ hG.bl (fun _ => ?_)
        clear hK K
        try simp only [Act.put]
        repeat (apply tree_take; (exact rfl); rfl; (intro W hW; obtain ⟨⟨q0, q1⟩, ⟨q2, q3, q4⟩, q5⟩ := HF.out W hW; go_simp; (try with_reducible rfl)); simp only [Act.put, List.setIfInBounds_toArray, List.set_cons_zero, List.set_cons_succ])
        exact tree_done ⟨⟨⟨B0, d0, B1, d1, B2, d2⟩, x, y, w1.heap.size⟩, rfl, rfl, hG⟩
    ·
      have hnew : ((law2W w (.int .i64 pg) (.int .i64 wd) (.slice A0 nd.pairs.length c0) (.slice A1 nd.seps.length c1) (.slice A2 nd.kids.length c2)).drew.alloc (.cells zero7 54)).heap[w.heap.size + 1 + 1]? = some (.cells zero7 54 (0, 0)) := by
        have h := heap_alloc_new (law2W w (.int .i64 pg) (.int .i64 wd) (.slice A0 nd.pairs.length c0) (.slice A1 nd.seps.length c1) (.slice A2 nd.kids.length c2)).drew (.cells zero7 54)
        have e : (law2W w (.int .i64 pg) (.int .i64 wd) (.slice A0 nd.pairs.length c0) (.slice A1 nd.seps.length c1) (.slice A2 nd.kids.length c2)).drew.heap.size = w.heap.size + 1 + 1 := by first | rfl | simp
        rw [e] at h; exact h
      apply tree_run; (exact rfl); rfl; intro K hK; go_simp
      have hS1a := hS1.alloc (law2_size hS1) (.cells zero7 54)
      refine hK.out _ _ hS1a (fun _ => ?_)
      clear hK K
      try simp only [Act.put, List.setIfInBounds_toArray, List.set_cons_zero, List.set_cons_succ]
      apply tree_run; (exact rfl); rfl; intro K hK; go_simp
      refine (lent_c A0 A1 A2 c0 c1 c2 nd _ (HN.out.below (law2_below hS1a)) HR.out).mono ?_
      rintro e w1 ⟨B0, d0, B1, d1, B2, d2, rfl, hown, hb1⟩
      have hS2 := law2_next hS1a hb1
      have HX := Lib.hid (OwN.rd hown).short
      clear hown
      refine hK.out _ _ hS2 (fun _ => ?_)
      clear hK K
      try simp only [Act.put, List.setIfInBounds_toArray, List.set_cons_zero, List.set_cons_succ]
      apply tree_run; (exact rfl); rfl; intro K hK; go_simp
      refine (split_c pg wd B0 B1 B2 d0 d1 d2 nd _ HX.out).mono ?_
      rintro e w2 ⟨x, y, mid, rfl, hx, hy, hb2, hmid⟩
      have hS3 := law2_next hS2 hb2
      have hx := OwN.top hx
      have hy := OwN.top hy
      have HXX := Lib.hid hx
      have HYY := Lib.hid hy
      clear hx hy
      refine hK.out _ _ hS3 (fun _ => ?_)
      clear hK K
      try simp only [Act.put, List.setIfInBounds_toArray, List.set_cons_zero, List.set_cons_succ]
      repeat (apply tree_take; (exact rfl); rfl; (intro W hW; obtain ⟨⟨q0, q1⟩, ⟨q2, q3, q4⟩, q5⟩ := HF.out W hW; go_simp; (try with_reducible rfl)); simp only [Act.put, List.setIfInBounds_toArray, List.set_cons_zero, List.set_cons_succ])
      have hlo : w.heap.size + 1 + 1 ≤ w.heap.size + 1 + 1 := by first | exact Nat.le_refl _ | exact law2_size (Below.refl _ _)
      have hsz : w.heap.size + 1 + 1 + 1 ≤ w1.heap.size := by have := hb1.size; simp at this; omega
      have hrow := ((hb2.block (w.heap.size + 1 + 1) (by omega)).trans ((hb1.block (w.heap.size + 1 + 1) (by simp)).trans hnew))
      have hG := splitG_store (w := w) ⟨B0, d0, B1, d1, B2, d2⟩ x y (w.heap.size + 1 + 1) hS3 hrow hlo HXX.out (.inl (by omega)) HYY.out (.inl (by omega))
      apply tree_run; (exact rfl); rfl; intro K hK
      refine wp_store_row 54 (.tmp 5) (.tmp 19) rfl (w.heap.size + 1 + 1) (cells7 x (splitL pg wd nd) (splitS pg wd nd) y (splitR pg wd nd)) rfl rfl 54 zero7 hrow info54 rfl (own7 x y _ _ _) ?_
      refine hK.out _ _ hG.bl (fun _ => ?_)
      clear hK K
      try simp only [Act.put]
      repeat (apply tree_take; (exact rfl); rfl; (intro W hW; obtain ⟨⟨q0, q1⟩, ⟨q2, q3, q4⟩, q5⟩ := HF.out W hW; go_simp; (try with_reducible rfl)); simp only [Act.put, List.setIfInBounds_toArray, List.set_cons_zero, List.set_cons_succ])
      exact tree_done ⟨⟨⟨B0, d0, B1, d1, B2, d2⟩, x, y, w.heap.size + 1 + 1⟩, rfl, rfl, hG⟩
  case rest =>
    rintro ⟨b, x, y, g⟩ W hG
    obtain ⟨⟨s0, s1⟩, ⟨s2, s3, s4⟩, s5⟩ := two_boxes hG.bl
    have HG := Lib.hid hG
    clear hG
    simp only [Act.put, List.setIfInBounds_toArray, List.set_cons_zero, List.set_cons_succ]
    by_cases hE : splitE pg wd nd = 0
    · have hO := once_plain hE
      have hj := HJ.out hE
      obtain ⟨f, hf⟩ : ∃ f, fullB pg wd nd = f := ⟨_, rfl⟩
      have hbor : borrowL pg wd (splitL pg wd nd) (splitS pg wd nd) (splitR pg wd nd) = splitL pg wd nd ∧ borrowS pg wd (splitL pg wd nd) (splitS pg wd nd) (splitR pg wd nd) = splitS pg wd nd ∧
          borrowR pg wd (splitL pg wd nd) (splitS pg wd nd) (splitR pg wd nd) = splitR pg wd nd ∧ borrowE pg wd (splitL pg wd nd) (splitS pg wd nd) (splitR pg wd nd) = 0 := by
        simp only [borrowL, borrowS, borrowR, borrowE, hO.e, hO.r, if_true, hE, and_self]
      have hmer : mergeR pg wd (splitL pg wd nd) (splitS pg wd nd) (splitR pg wd nd) = (if f = true then noN else nd) ∧ mergeE pg wd (splitL pg wd nd) (splitS pg wd nd) (splitR pg wd nd) = (if f = true then 5 else 0) := by
        simp only [mergeR, mergeE, hO.e, hO.r, hf, true_and, and_self]
      obtain ⟨ML, hML⟩ : ∃ X, mendL pg wd (splitL pg wd nd) (splitS pg wd nd) (splitR pg wd nd) = X := ⟨_, rfl⟩
      obtain ⟨MS, hMS⟩ : ∃ X, mendS pg wd (splitL pg wd nd) (splitS pg wd nd) (splitR pg wd nd) = X := ⟨_, rfl⟩
      obtain ⟨MR, hMR⟩ : ∃ X, mendR pg wd (splitL pg wd nd) (splitS pg wd nd) (splitR pg wd nd) = X := ⟨_, rfl⟩
      have hmb : mendB pg wd (splitL pg wd nd) (splitS pg wd nd) (splitR pg wd nd) = !f := by
        rw [mendB, if_pos hO.e, hO.r, hf]; cases f <;> rfl
      have hme : mendE pg wd (splitL pg wd nd) (splitS pg wd nd) (splitR pg wd nd) = 0 := by
        rw [mendE, if_pos hO.e, hO.r, hf, hE]; cases f <;> rfl
      have hml : f = false → ML = nd ∧ MS = ⟨#[]⟩ := by
        intro h; rw [← hML, ← hMS, mendL, mendS, if_pos hO.e, if_pos hO.e, hO.r, hf, h]; exact ⟨rfl, rfl⟩
      have HBOR : Hid (∀ (x y : VH) (w : World), RdN w x.A0 x.c0 x.A1 x.c1 x.A2 x.c2 (splitL pg wd nd) → RdN w y.A0 y.c0 y.A1 y.c1 y.A2 y.c2 (splitR pg wd nd) → Calls Try.prog 52 #[vF pg wd, vH x (splitL pg wd nd) (splitS pg wd nd) y (splitR pg wd nd)] w fun e w' =>
          ∃ x' y' : VH, e = .returned (.tuple #[vH x' (splitL pg wd nd) (splitS pg wd nd) y' (splitR pg wd nd), .int .i64 0]) ∧ RdN w' x'.A0 x'.c0 x'.A1 x'.c1 x'.A2 x'.c2 (splitL pg wd nd) ∧ RdN w' y'.A0 y'.c0 y'.A1 y'.c1 y'.A2 y'.c2 (splitR pg wd nd) ∧ Below w.heap.size w w') := by
        refine Lib.hid ?_
        intro x y w h1 h2
        have := borrow_c pg wd x _ _ y _ w h1 h2 hj
        rw [hbor.1, hbor.2.1, hbor.2.2.1, hbor.2.2.2] at this
        exact this.mono fun e w' h => h.rd1
      have HMER : Hid (∀ (x y : VH) (w : World), RdN w x.A0 x.c0 x.A1 x.c1 x.A2 x.c2 (splitL pg wd nd) → RdN w y.A0 y.c0 y.A1 y.c1 y.A2 y.c2 (splitR pg wd nd) → Calls Try.prog 55 #[vF pg wd, vH x (splitL pg wd nd) (splitS pg wd nd) y (splitR pg wd nd)] w fun e w' =>
          ∃ z : VH, e = .returned (.tuple #[vN z.A0 z.c0 z.A1 z.c1 z.A2 z.c2 (if f = true then noN else nd), .int .i64 (if f = true then 5 else 0)]) ∧ RdN w' z.A0 z.c0 z.A1 z.c1 z.A2 z.c2 (if f = true then noN else nd) ∧ Below w.heap.size w w') := by
        refine Lib.hid ?_
        intro x y w h1 h2
        have := merge_c pg wd x _ _ y _ w h1 h2 hj
        rw [hmer.1, hmer.2] at this
        exact this.mono fun e w' ⟨z, he, ho, hb⟩ => ⟨z, he, OwN.rd ho, hb⟩
      have HMEN : Hid (∀ (x y : VH) (w : World), RdN w x.A0 x.c0 x.A1 x.c1 x.A2 x.c2 (splitL pg wd nd) → RdN w y.A0 y.c0 y.A1 y.c1 y.A2 y.c2 (splitR pg wd nd) → Calls Try.prog 57 #[vF pg wd, vH x (splitL pg wd nd) (splitS pg wd nd) y (splitR pg wd nd)] w fun e w' =>
          ∃ x' y' : VH, e = .returned (.tuple #[vH x' ML MS y' MR, .bool (!f), .int .i64 0]) ∧ RdN w' x'.A0 x'.c0 x'.A1 x'.c1 x'.A2 x'.c2 ML ∧ RdN w' y'.A0 y'.c0 y'.A1 y'.c1 y'.A2 y'.c2 MR ∧ Below w.heap.size w w') := by
        refine Lib.hid ?_
        intro x y w h1 h2
        have := mend_c pg wd x _ _ y _ w h1 h2 hj
        rw [hML, hMS, hMR, hmb, hme] at this
        exact this.mono fun e w' h => h.rd2
      have HFU := Lib.hid hf
      have HML := Lib.hid hml
      have HL0 := Lib.hid HG.out.l
      have HR0 := Lib.hid HG.out.r
      have HBL0 := Lib.hid HG.out.bl
      have HROW0 := Lib.hid HG.out.row
      rw [hE]
      clear hE hO hj hf hbor hmer hML hMS hMR hmb hme hml HG HJ
      generalize splitL pg wd nd = L at *
      generalize splitR pg wd nd = R at *
      generalize splitS pg wd nd = s at *
      obtain ⟨⟨r0, r1, r2⟩, r4, r5, r6⟩ := box7 HROW0.out
      have r3 : W.cell? ⟨g, 3, none⟩ = some (.string s) := cell_of_row _ _ 3 _ _ _ HROW0.out
      have hgW : g < W.heap.size := (Array.getElem?_eq_some_iff.1 HROW0.out).1
      have hz := law2_size HBL0.out
      have z0 : w.heap.size < W.heap.size := by omega
      have z1 : w.heap.size + 1 < W.heap.size := by omega
      clear hz
      cases f
      all_goals
        simp only [if_true, Bool.false_eq_true, if_false, Bool.not_false, Bool.not_true] at HMER HMEN
        go_wp2_with (first
          | (go_at_call 52; go_must (
             refine (HBOR.out x y _ HL0.out HR0.out).mono ?_; rintro e w1 ⟨x1, y1, rfl, hl, hr, hb1⟩
             have HBA := Lib.hid hl
             have HBB := Lib.hid hr
             have HL1 := Lib.hid (HL0.out.below hb1)
             have HR1 := Lib.hid (HR0.out.below hb1)
             have HBL1 := Lib.hid (law2_next HBL0.out hb1)
             have HROW1 := Lib.hid ((hb1.block _ hgW).trans HROW0.out)
             clear hl hr hb1 HBOR HL0 HR0 HBL0 HROW0
             clear s0 s1 s2 s3 s4 z0 z1 r0 r1 r2 r3 r4 r5 r6 hgW
             obtain ⟨⟨s0, s1⟩, ⟨s2, s3, s4⟩, _⟩ := two_boxes HBL1.out
             have hz := law2_size HBL1.out
             have z0 : w.heap.size < w1.heap.size := (by omega)
             have z1 : w.heap.size + 1 < w1.heap.size := (by omega)
             clear hz
             obtain ⟨⟨r0, r1, r2⟩, r4, r5, r6⟩ := box7 HROW1.out
             have r3 : w1.cell? ⟨g, 3, none⟩ = some (.string s) := cell_of_row _ _ 3 _ _ _ HROW1.out
             have hgW : g < w1.heap.size := (Array.getElem?_eq_some_iff.1 HROW1.out).1))
          | (go_at_call 50; skip; (
             refine (same_c _ _ _ _ _ _ _ _ _ _ _ _ L _ (HBA.out.below ((Below.refl _ _).alloc (Nat.le_refl _) _)) (HL1.out.below ((Below.refl _ _).alloc (Nat.le_refl _) _))).mono ?_; rintro e w2 ⟨rfl, hb2⟩
             have hb2a := below_a hb2
             have HBB2 := Lib.hid (HBB.out.below hb2a)
             have hrow7 := one_row hb2
             have HGB := Lib.hid hrow7
             have HL2 := Lib.hid (HL1.out.below hb2a)
             have HR2 := Lib.hid (HR1.out.below hb2a)
             have HBL2 := Lib.hid (law2_next HBL1.out hb2a)
             have HROW2 := Lib.hid ((hb2a.block _ hgW).trans HROW1.out)
             clear hb2a hb2 HBA HBB HL1 HR1 HBL1 HROW1
             clear s0 s1 s2 s3 s4 z0 z1 r0 r1 r2 r3 r4 r5 r6 hgW
             obtain ⟨⟨s0, s1⟩, ⟨s2, s3, s4⟩, _⟩ := two_boxes HBL2.out
             have hz := law2_size HBL2.out
             have z0 : w.heap.size < w2.heap.size := (by omega)
             have z1 : w.heap.size + 1 < w2.heap.size := (by omega)
             clear hz
             obtain ⟨⟨r0, r1, r2⟩, r4, r5, r6⟩ := box7 HROW2.out
             have r3 : w2.cell? ⟨g, 3, none⟩ = some (.string s) := cell_of_row _ _ 3 _ _ _ HROW2.out
             have hgW : g < w2.heap.size := (Array.getElem?_eq_some_iff.1 HROW2.out).1
             obtain ⟨⟨p0, p1, p2⟩, p4, p5, p6⟩ := box7 hrow7
             clear hrow7))
          | (go_at_call 50; skip; (
             refine (same_c _ _ _ _ _ _ _ _ _ _ _ _ R _ HBB2.out HR2.out).mono ?_; rintro e w3 ⟨rfl, hb3⟩
             have HL3 := Lib.hid (HL2.out.below hb3)
             have HR3 := Lib.hid (HR2.out.below hb3)
             have HBL3 := Lib.hid (law2_next HBL2.out hb3)
             have HROW3 := Lib.hid ((hb3.block _ hgW).trans HROW2.out)
             clear hb3 HBB2 HL2 HR2 HBL2 HROW2 p0 p1 p2 p4 p5 p6 HGB
             clear s0 s1 s2 s3 s4 z0 z1 r0 r1 r2 r3 r4 r5 r6 hgW
             obtain ⟨⟨s0, s1⟩, ⟨s2, s3, s4⟩, _⟩ := two_boxes HBL3.out
             have hz := law2_size HBL3.out
             have z0 : w.heap.size < w3.heap.size := (by omega)
             have z1 : w.heap.size + 1 < w3.heap.size := (by omega)
             clear hz
             obtain ⟨⟨r0, r1, r2⟩, r4, r5, r6⟩ := box7 HROW3.out
             have r3 : w3.cell? ⟨g, 3, none⟩ = some (.string s) := cell_of_row _ _ 3 _ _ _ HROW3.out
             have hgW : g < w3.heap.size := (Array.getElem?_eq_some_iff.1 HROW3.out).1))
          | (go_at_call 55; go_must (
             refine (HMER.out x y _ HL3.out HR3.out).mono ?_; rintro e w4 ⟨z, rfl, hm, hb4⟩
             have HM4 := Lib.hid hm
             have HL4 := Lib.hid (HL3.out.below hb4)
             have HR4 := Lib.hid (HR3.out.below hb4)
             have HBL4 := Lib.hid (law2_next HBL3.out hb4)
             have HROW4 := Lib.hid ((hb4.block _ hgW).trans HROW3.out)
             clear hm hb4 HMER HL3 HR3 HBL3 HROW3
             clear s0 s1 s2 s3 s4 z0 z1 r0 r1 r2 r3 r4 r5 r6 hgW
             obtain ⟨⟨s0, s1⟩, ⟨s2, s3, s4⟩, _⟩ := two_boxes HBL4.out
             have hz := law2_size HBL4.out
             have z0 : w.heap.size < w4.heap.size := (by omega)
             have z1 : w.heap.size + 1 < w4.heap.size := (by omega)
             clear hz
             obtain ⟨⟨r0, r1, r2⟩, r4, r5, r6⟩ := box7 HROW4.out
             have r3 : w4.cell? ⟨g, 3, none⟩ = some (.string s) := cell_of_row _ _ 3 _ _ _ HROW4.out
             have hgW : g < w4.heap.size := (Array.getElem?_eq_some_iff.1 HROW4.out).1))
          | (go_at_call 57; go_must (
             refine (HMEN.out x y _ (HL4.out.below ((Below.refl _ _).alloc (Nat.le_refl _) _)) (HR4.out.below ((Below.refl _ _).alloc (Nat.le_refl _) _))).mono ?_; rintro e w5 ⟨x2, y2, rfl, hm, _, hb5⟩
             have hb5a := below_a hb5
             have HMD5 := Lib.hid hm
             have HM5 := Lib.hid (HM4.out.below hb5a)
             have HROW9 := Lib.hid (one_row hb5)
             have hg9' : w4.heap.size < w5.heap.size := (Array.getElem?_eq_some_iff.1 HROW9.out).1
             have HBL5 := Lib.hid (law2_next HBL4.out hb5a)
             clear hm hb5a hb5 HMEN HL4 HR4 HBL4 HROW4 HM4 r0 r1 r2 r3 r4 r5 r6 hgW
             clear s0 s1 s2 s3 s4 z0 z1
             obtain ⟨⟨s0, s1⟩, ⟨s2, s3, s4⟩, _⟩ := two_boxes HBL5.out
             have hz := law2_size HBL5.out
             have z0 : w.heap.size < w5.heap.size := (by omega)
             have z1 : w.heap.size + 1 < w5.heap.size := (by omega)
             clear hz)))
        have HF := Lib.hid (fun W (h : Below (w.heap.size + 1 + 1) (law2W w (.int .i64 pg) (.int .i64 wd) (.slice A0 nd.pairs.length c0) (.slice A1 nd.seps.length c1) (.slice A2 nd.kids.length c2)) W) => two_boxes h)
        refine wp_region_tree (S := Below (w.heap.size + 1 + 1) (law2W w (.int .i64 pg) (.int .i64 wd) (.slice A0 nd.pairs.length c0) (.slice A1 nd.seps.length c1) (.slice A2 nd.kids.length c2))) (.take 0 (.take 1 (.run 2 (.run 3 (.done))))) (by kernel_rfl) (by kernel_rfl) (by kernel_rfl) (fun _ _ d _ _ h => by cases d <;> exact h) (HBL5.out.alloc (law2_size HBL5.out) _).drew ?_
        repeat (apply tree_take; (exact rfl); rfl; (intro W hW; obtain ⟨⟨q0, q1⟩, ⟨q2, q3, q4⟩, q5⟩ := HF.out W hW; go_simp; (try with_reducible rfl)); simp only [Act.put, List.setIfInBounds_toArray, List.set_cons_zero, List.set_cons_succ])
        apply tree_run; (exact rfl); rfl; intro K hK; go_simp
        have hS5 := (HBL5.out.alloc (law2_size HBL5.out) (.cells (cells7 x2 ML MS y2 MR) 54)).drew
        refine (lent_c A0 A1 A2 c0 c1 c2 nd _ (HN.out.below (law2_below hS5)) HR.out).mono ?_
        rintro e w6 ⟨B0, d0, B1, d1, B2, d2, rfl, hown, hb6⟩
        have hS6 := law2_next hS5 hb6
        have HX := Lib.hid (OwN.rd hown).short
        clear hown
        refine hK.out _ _ hS6 (fun _ => ?_)
        clear hK K
        try simp only [Act.put, List.setIfInBounds_toArray, List.set_cons_zero, List.set_cons_succ]
        apply tree_run; (exact rfl); rfl; intro K hK; go_simp
        refine (full_v2 pg wd B0 B1 B2 d0 d1 d2 nd _ HX.out _ HFU.out).mono ?_
        rintro e w7 ⟨rfl, hb7⟩
        have hS7 := law2_next hS6 hb7
        refine hK.out _ _ hS7 (fun _ => ?_)
        clear hK K
        try simp only [Act.put, List.setIfInBounds_toArray, List.set_cons_zero, List.set_cons_succ]
        refine tree_done ?_
        have hb57 : Below w5.heap.size w5 w7 := (((Below.refl w5.heap.size w5).alloc (Nat.le_refl _) (.cells (cells7 x2 ML MS y2 MR) 54)).drew.trans (hb6.mono (by simp [World.drew]))).trans (hb7.mono (by have := hb6.size; simp [World.drew] at this; omega))
        have hg9 := (hb57.block _ hg9').trans HROW9.out
        have hg11 : w7.heap[w5.heap.size]? = some (.cells (cells7 x2 ML MS y2 MR) 54 (0, 0)) := (hb7.block _ (by have := hb6.size; simp [World.drew] at this; omega)).trans ((hb6.block _ (by simp [World.drew])).trans (heap_alloc_new w5 _))
        obtain ⟨⟨r0, r1, r2⟩, r4, r5, r6⟩ := box7 hg11
        have r3 : w7.cell? ⟨w5.heap.size, 3, none⟩ = some (.string MS) := cell_of_row _ _ 3 _ _ _ hg11
        obtain ⟨⟨p0, p1, p2⟩, _⟩ := box_facts hg9
        obtain ⟨⟨s0, s1⟩, ⟨s2, s3, s4⟩, _⟩ := two_boxes hS7
        have HM7 := Lib.hid (HM5.out.below hb57)
        have HML7 := Lib.hid (HMD5.out.below hb57)
        have HBL7 := Lib.hid hS7
        have HG9 := Lib.hid hg9
        have HG11 := Lib.hid hg11
        clear hb57 hg9 hg11 hS7 hS6 hS5 hb6 hb7 HX HF hg9' HROW9 HM5 HMD5 HBL5
        try (have e2 := (HML.out trivial).2; rw [e2] at r3; clear e2)
        go_wp2_with (first
          | (go_at_call 50; skip; (
             refine (same_c _ _ _ _ _ _ _ _ _ _ _ _ nd _ HM7.out (HN.out.below (law2_below HBL7.out))).mono ?_; rintro e w8 ⟨rfl, hb8⟩
             have HBL8 := Lib.hid (law2_next HBL7.out hb8)
             have hg11 := (hb8.block _ (Array.getElem?_eq_some_iff.1 HG11.out).1).trans HG11.out
             have HML8 := Lib.hid (HML7.out.below hb8)
             clear hb8 s0 s1 s2 s3 s4 r0 r1 r2 r3 r4 r5 r6 p0 p1 p2 HM7 HML7 HG9
             obtain ⟨⟨s0, s1⟩, ⟨s2, s3, s4⟩, _⟩ := two_boxes HBL8.out
             obtain ⟨⟨r0, r1, r2⟩, r4, r5, r6⟩ := box7 hg11
             have r3 : w8.cell? ⟨w5.heap.size, 3, none⟩ = some (.string MS) := cell_of_row _ _ 3 _ _ _ hg11
             rw [(HML.out trivial).2] at r3
             have HG8 := Lib.hid hg11
             clear hg11))
          | (go_at_call 50; go_must (
             refine (same_w _ _ _ _ _ _ _ _ _ _ _ _ ML nd _ (HML.out trivial).1 HML8.out (HN.out.below (law2_below HBL8.out))).mono ?_; rintro e w9 ⟨rfl, hb9⟩
             have HBL9 := Lib.hid (law2_next HBL8.out hb9)
             have hg11 := (hb9.block _ (Array.getElem?_eq_some_iff.1 HG8.out).1).trans HG8.out
             clear hb9 s0 s1 s2 s3 s4 r0 r1 r2 r3 r4 r5 r6
             have r3 : w9.cell? ⟨w5.heap.size, 3, none⟩ = some (.string MS) := cell_of_row _ _ 3 _ _ _ hg11
             rw [(HML.out trivial).2] at r3))
          | (go_at_call 20; refine (awake_c _).mono ?_; rintro e w10 ⟨rfl, hb10⟩))
        go_ret
        first
          | exact ⟨rfl, law2_below (law2_next HBL9.out hb10)⟩
          | exact ⟨rfl, law2_below (law2_next HBL7.out hb10)⟩
    · have eL : splitL pg wd nd = noN := by rw [splitL, if_neg hE]
      have eR : splitR pg wd nd = noN := by rw [splitR, if_neg hE]
      have eS : splitS pg wd nd = ⟨#[]⟩ := by rw [splitS, if_neg hE]
      have hl := HG.out.l
      have hr := HG.out.r
      have hrow := HG.out.row
      rw [eL] at hl
      rw [eR] at hr
      rw [eL, eR, eS] at hrow
      rw [eL, eR, eS]
      have HL := Lib.hid hl
      have HRR := Lib.hid hr
      have HBL := Lib.hid HG.out.bl
      have hgW : g < W.heap.size := (Array.getElem?_eq_some_iff.1 hrow).1
      have HROW := Lib.hid hrow
      obtain ⟨⟨r0, r1, r2⟩, r4, r5, r6⟩ := box7 hrow
      have r3 : W.cell? ⟨g, 3, none⟩ = some (.string ⟨#[]⟩) := cell_of_row _ _ 3 _ _ _ hrow
      have hE' : (splitE pg wd nd != 0) = true := by simp [hE]
      clear hE HG HJ eL eR eS hl hr hrow
      generalize splitE pg wd nd = E at *
      go_wp2_with (first
        | (go_at_call 50; skip; (
           refine (same_c x.A0 x.A1 x.A2 none none none x.c0 x.c1 x.c2 0 0 0 noN _ HL.out (own_noN _ 0 0).rd).mono ?_; rintro e w7 ⟨rfl, hb7⟩
           have HR7 := Lib.hid (HRR.out.below hb7)
           have HBL7 := Lib.hid (law2_next HBL.out hb7)
           have hrow := (hb7.block _ hgW).trans HROW.out
           clear r0 r1 r2 r3 r4 r5 r6 HL
           obtain ⟨⟨r0, r1, r2⟩, r4, r5, r6⟩ := box7 hrow
           have r3 : w7.cell? ⟨g, 3, none⟩ = some (.string ⟨#[]⟩) := cell_of_row _ _ 3 _ _ _ hrow
           have hg7 : g < w7.heap.size := (Array.getElem?_eq_some_iff.1 hrow).1
           have HROW7 := Lib.hid hrow
           clear hrow hb7))
        | (go_at_call 50; go_must (
           refine (same_c y.A0 y.A1 y.A2 none none none y.c0 y.c1 y.c2 0 0 0 noN _ HR7.out (own_noN _ 0 0).rd).mono ?_; rintro e w8 ⟨rfl, hb8⟩
           have HBL8 := Lib.hid (law2_next HBL7.out hb8)
           have hrow := (hb8.block _ hg7).trans HROW7.out
           clear r0 r1 r2 r3 r4 r5 r6
           obtain ⟨⟨r0, r1, r2⟩, r4, r5, r6⟩ := box7 hrow
           have r3 : w8.cell? ⟨g, 3, none⟩ = some (.string ⟨#[]⟩) := cell_of_row _ _ 3 _ _ _ hrow
           clear hrow hb8))
        | (go_at_call 20; refine (awake_c _).mono ?_; rintro e w9 ⟨rfl, hb9⟩))
      go_ret
      exact ⟨rfl, law2_below (law2_next HBL8.out hb9)⟩

end Go.Proofs.Ytajkoeodabmgeaa
