import Derived.Test.YtajkoeodabmgeaaZ11
namespace Go.Proofs.Ytajkoeodabmgeaa
open Go.RowKit
set_option maxHeartbeats 2000000
set_option maxRecDepth 100000
attribute [local go_sem] grow_cell grow_frozen grow_size

theorem splitE_zero {pg wd : Int} {nd : NodeD} (h : splitE pg wd nd = 0) : right pg wd = true ∧ checkE pg wd nd = 0 ∧ splitAt' pg wd nd ≠ 0 := by
  unfold splitE at h
  split at h
  · rename_i h1
    split at h
    · rename_i h2
      split at h
      · cases h
      · rename_i h3; exact ⟨h1, h2, h3⟩
    · cases h
  · cases h
theorem sepS_size (l r : ByteArray) : (sepS l r).size ≤ r.size := by
  unfold sepS
  split
  · simp; omega
  · exact Nat.zero_le _

theorem split_ways {pg wd : Int} {nd : NodeD} (key : ByteArray) (hE : splitE pg wd nd = 0) (hk : nd.kids.length = 0) :
    findB nd.pairs key = (findB (splitL pg wd nd).pairs key || findB (splitR pg wd nd).pairs key) ∧ (findB (splitL pg wd nd).pairs key = true → bl key (splitS pg wd nd) = true) ∧
    (findB (splitR pg wd nd).pairs key = true → bl key (splitS pg wd nd) = false) ∧ ∃ i, ∃ h : i < nd.pairs.length, (splitS pg wd nd).size ≤ nd.pairs[i].k.size := by
  obtain ⟨_, hc, h0⟩ := splitE_zero hE
  have hok := splitAt_ok h0
  rw [cutOk, if_pos hk] at hok
  have hu : up nd.pairs := leaf_up (pg := pg) (wd := wd) (by rw [leafB, decide_eq_true_iff]; exact ⟨hk, hc⟩)
  have hw := ways_plain hu hok.1 hok.2 key
  have e1 : splitL pg wd nd = ⟨nd.pairs.take (splitAt' pg wd nd), [], []⟩ := by rw [splitL, if_pos hE, halvesL, if_pos hk]
  have e2 : splitR pg wd nd = ⟨nd.pairs.drop (splitAt' pg wd nd), [], []⟩ := by rw [splitR, if_pos hE, halvesR, if_pos hk]
  have e3 : splitS pg wd nd = sepS (keyAt nd.pairs (splitAt' pg wd nd - 1)) (keyAt nd.pairs (splitAt' pg wd nd)) := by rw [splitS, if_pos hE, halvesS, if_pos hk]
  rw [e1, e2, e3]
  refine ⟨hw.all, hw.lo, hw.hi, _, hok.2, ?_⟩
  have := sepS_size (keyAt nd.pairs (splitAt' pg wd nd - 1)) (keyAt nd.pairs (splitAt' pg wd nd))
  rwa [keyAt_get hok.2] at this ⊢

/-- A branch with one separator. -/
theorem sepN_rd (w : World) (s : ByteArray) (g : Nat) (hg : g = w.heap.size) (hss : s.size ≤ 140737488355328) : RdN (w.alloc (.cells #[.string s] 9)) none 0 (some ⟨g, 0, none⟩) 1 none 0 ⟨[], [s], []⟩ where
  pairs := Rd.none_
  seps := ⟨by simp [scells], fun _ => ⟨g, 0, rfl, fun j u hu => by
    subst hg
    rw [Nat.zero_add, cell_of_row _ _ j _ _ _ (heap_alloc_new w (.cells #[.string s] 9)), ← hu]
    simp [scells]⟩⟩
  kids := Rd.none_
  hp := by simp
  hs := by simp
  hk := by simp
  hcp := by simp
  hcs := by simp
  hck := by simp
  pk := fun p hp => by cases hp
  sk := fun p hp => by rw [List.mem_singleton.1 hp]; exact hss
  kk := fun p hp => by cases hp
theorem way_one (s key : ByteArray) : wayI [s] key = if bl key s = true then 0 else 1 := by
  unfold wayI cntW
  cases h : bl key s <;> simp [h]

theorem find_v (A0 A1 A2 : Option Addr) (c0 c1 c2 : Nat) (nd : NodeD) (key : ByteArray) (w : World) (hN : RdN w A0 c0 A1 c1 A2 c2 nd) (b : Bool) (hb : findB nd.pairs key = b) :
    Calls Try.prog 42 #[vN A0 c0 A1 c1 A2 c2 nd, .string key] w fun e w' => e = .returned (.tuple #[.int .i64 (findI nd.pairs key), .bool b]) ∧ Below w.heap.size w w' := by
  subst hb; exact find_c A0 A1 A2 c0 c1 c2 nd key w hN
theorem way_v (s key : ByteArray) (g : Nat) (w : World) (hN : RdN w none 0 (some ⟨g, 0, none⟩) 1 none 0 ⟨[], [s], []⟩) (i : Int) (hi : (if bl key s = true then 0 else 1) = i) :
    Calls Try.prog 44 #[.agg #[.slice none 0 0, .slice (some ⟨g, 0, none⟩) 1 1, .slice none 0 0], .string key] w fun e w' => e = .returned (.int .i64 i) ∧ Below w.heap.size w w' :=
  (way_c none (some ⟨g, 0, none⟩) none 0 1 0 ⟨[], [s], []⟩ key w hN).mono (by
    rintro e w' ⟨rfl, hb⟩
    refine ⟨?_, hb⟩
    rw [way_one, ← hi]
    split <;> rfl)

theorem ways_law (pg wd : Int) (A0 A1 A2 : Option Addr) (c0 c1 c2 : Nat) (nd : NodeD) (key : ByteArray) (w : World) (hN : RdN w A0 c0 A1 c1 A2 c2 nd) (hR : Room 4 nd) :
    Calls Try.prog 12 #[vF pg wd, vN A0 c0 A1 c1 A2 c2 nd, .string key] w fun e w' => e = .returned (.bool true) ∧ Below w.heap.size w w' := by
  have HN := Lib.hid hN
  have HR := Lib.hid hR
  clear hN hR
  go_enter Try.func12, Try.ntmps12
  go_wp2
  refine region_mid (α := SplitX) (fun X a => ((((((((a.put (some 17) (vF pg wd)).put (some 18) (vN A0 c0 A1 c1 A2 c2 nd)).put (some 19) (vN X.b.A0 X.b.c0 X.b.A1 X.b.c1 X.b.A2 X.b.c2 nd)).put (some 20) (.tuple #[vH X.x (splitL pg wd nd) (splitS pg wd nd) X.y (splitR pg wd nd), .int .i64 (splitE pg wd nd)])).put (some 16) (.tuple #[vH X.x (splitL pg wd nd) (splitS pg wd nd) X.y (splitR pg wd nd), .int .i64 (splitE pg wd nd)])).put (some 21) (vH X.x (splitL pg wd nd) (splitS pg wd nd) X.y (splitR pg wd nd))).put (some 22) (.int .i64 (splitE pg wd nd))).put (some 7) (.pointer (some ⟨X.g, 0, none⟩))).put (some 8) (.int .i64 (splitE pg wd nd))) (fun X W => SplitG w (law2W w (.int .i64 pg) (.int .i64 wd) (.slice A0 nd.pairs.length c0) (.slice A1 nd.seps.length c1) (.slice A2 nd.kids.length c2)) (w.heap.size + 1 + 1) pg wd nd X W) ?region ?rest
  case region =>
    have hS1 : Below (w.heap.size + 1 + 1) (law2W w (.int .i64 pg) (.int .i64 wd) (.slice A0 nd.pairs.length c0) (.slice A1 nd.seps.length c1) (.slice A2 nd.kids.length c2)) (law2W w (.int .i64 pg) (.int .i64 wd) (.slice A0 nd.pairs.length c0) (.slice A1 nd.seps.length c1) (.slice A2 nd.kids.length c2)) := Below.refl _ _
    have HF := Lib.hid (fun W (h : Below (w.heap.size + 1 + 1) (law2W w (.int .i64 pg) (.int .i64 wd) (.slice A0 nd.pairs.length c0) (.slice A1 nd.seps.length c1) (.slice A2 nd.kids.length c2)) W) => two_boxes h)
    refine wp_region_tree (S := Below (w.heap.size + 1 + 1) (law2W w (.int .i64 pg) (.int .i64 wd) (.slice A0 nd.pairs.length c0) (.slice A1 nd.seps.length c1) (.slice A2 nd.kids.length c2)))
      (.take 0 (.take 1 (.two 2 7 (.two 3 7 (.take 4 (.take 5 (.take 6 (.run 7 (.run 8 (.take 9 (.done))))))) (.run 3 (.take 4 (.take 5 (.take 6 (.run 8 (.take 9 (.done)))))))) (.run 2 (.run 3 (.take 4 (.take 5 (.take 6 (.run 8 (.take 9 (.done)))))))))))
      (by kernel_rfl) (by kernel_rfl) (by kernel_rfl) (by rintro c a d v W ⟨X, h, _⟩; cases h) hS1.drew ?_
    repeat (apply tree_take; (exact rfl); rfl; (intro W hW; obtain ⟨⟨q0, q1⟩, ⟨q2, q3, q4⟩, q5⟩ := HF.out W hW; go_simp; (try with_reducible rfl)); simp only [Act.put, List.setIfInBounds_toArray, List.set_cons_zero, List.set_cons_succ])
    have hS1 := hS1.drew
    refine tree_two ?_ ?_
    ·
      apply tree_run; (exact rfl); rfl; intro K hK; go_simp
      refine (lent_c A0 A1 A2 c0 c1 c2 nd _ (HN.out.below (law2_below hS1)) HR.out).mono ?_
      rintro e w1 ⟨B0, d0, B1, d1, B2, d2, rfl, hown, hb1⟩
      have hS2 := law2_next hS1 hb1
      have HX := Lib.hid (OwN.rd hown).short
      clear hown
      refine hK.out _ _ hS2 (fun _ => ?_)
      clear hK K
      try simp only [Act.put, List.setIfInBounds_toArray, List.set_cons_zero, List.set_cons_succ]
      refine tree_two ?_ ?_
      ·
        apply tree_run; (exact rfl); rfl; intro K hK; go_simp
        refine (split_c pg wd B0 B1 B2 d0 d1 d2 nd _ HX.out).mono ?_
        rintro e w2 ⟨x, y, mid, rfl, hx, hy, hb2, hmid⟩
        have hS3 := law2_next hS2 hb2
        have hx := OwN.top hx
        have hy := OwN.top hy
        have HXX := Lib.hid hx
        have HYY := Lib.hid hy
        clear hx hy
        refine hK.out _ _ hS3 (fun _ => ?_)
        clear hK K
        try simp only [Act.put, List.setIfInBounds_toArray, List.set_cons_zero, List.set_cons_succ]
        repeat (apply tree_take; (exact rfl); rfl; (intro W hW; obtain ⟨⟨q0, q1⟩, ⟨q2, q3, q4⟩, q5⟩ := HF.out W hW; go_simp; (try with_reducible rfl)); simp only [Act.put, List.setIfInBounds_toArray, List.set_cons_zero, List.set_cons_succ])
        apply tree_run; (exact rfl); rfl; intro K hK; go_simp
        have hS3a := hS3.alloc (law2_size hS3) (.cells zero7 54)
        refine hK.out _ _ hS3a (fun _ => ?_)
        clear hK K
        try simp only [Act.put, List.setIfInBounds_toArray, List.set_cons_zero, List.set_cons_succ]
        have hrow := heap_alloc_new w2 (.cells zero7 54)
        have hG := splitG_store (w := w) ⟨B0, d0, B1, d1, B2, d2⟩ x y (w2.heap.size) hS3a hrow (law2_size hS3) (OwN.below HXX.out ((Below.refl _ _).alloc (Nat.le_refl _) _)) (.inr (Nat.le_refl _)) (OwN.below HYY.out ((Below.refl _ _).alloc (Nat.le_refl _) _)) (.inr (Nat.le_refl _))
        apply tree_run; (exact rfl); rfl; intro K hK
        refine wp_store_row 54 (.tmp 7) (.tmp 21) rfl (w2.heap.size) (cells7 x (splitL pg wd nd) (splitS pg wd nd) y (splitR pg wd nd)) rfl rfl 54 zero7 hrow info54 rfl (own7 x y _ _ _) ?_
        refine hK.out _ _ hG.bl (fun _ => ?_)
        clear hK K
        try simp only [Act.put]
        repeat (apply tree_take; (exact rfl); rfl; (intro W hW; obtain ⟨⟨q0, q1⟩, ⟨q2, q3, q4⟩, q5⟩ := HF.out W hW; go_simp; (try with_reducible rfl)); simp only [Act.put, List.setIfInBounds_toArray, List.set_cons_zero, List.set_cons_succ])
        exact tree_done ⟨⟨⟨B0, d0, B1, d1, B2, d2⟩, x, y, w2.heap.size⟩, rfl, rfl, hG⟩
      ·
        apply tree_run; (exact rfl); rfl; intro K hK; go_simp
        have hS2a := hS2.alloc (law2_size hS2) (.cells zero7 54)
        refine hK.out _ _ hS2a (fun _ => ?_)
        clear hK K
        try simp only [Act.put, List.setIfInBounds_toArray, List.set_cons_zero, List.set_cons_succ]
        apply tree_run; (exact rfl); rfl; intro K hK; go_simp
        refine (split_c pg wd B0 B1 B2 d0 d1 d2 nd _ (HX.out.below ((Below.refl _ _).alloc (Nat.le_refl _) _))).mono ?_
        rintro e w2 ⟨x, y, mid, rfl, hx, hy, hb2, hmid⟩
        have hS3 := law2_next hS2a hb2
        have hx := OwN.top hx
        have hy := OwN.top hy
        have HXX := Lib.hid hx
        have HYY := Lib.hid hy
        clear hx hy
        refine hK.out _ _ hS3 (fun _ => ?_)
        clear hK K
        try simp only [Act.put, List.setIfInBounds_toArray, List.set_cons_zero, List.set_cons_succ]
        repeat (apply tree_take; (exact rfl); rfl; (intro W hW; obtain ⟨⟨q0, q1⟩, ⟨q2, q3, q4⟩, q5⟩ := HF.out W hW; go_simp; (try with_reducible rfl)); simp only [Act.put, List.setIfInBounds_toArray, List.set_cons_zero, List.set_cons_succ])
        have hmid : w1.heap.size + 1 ≤ mid := by simpa using hmid
        have hrow := ((hb2.block w1.heap.size (by simp)).trans (heap_alloc_new w1 (.cells zero7 54)))
        have hG := splitG_store (w := w) ⟨B0, d0, B1, d1, B2, d2⟩ x y (w1.heap.size) hS3 hrow (law2_size hS2) HXX.out (.inl (by simp)) HYY.out (.inl (by omega))
        apply tree_run; (exact rfl); rfl; intro K hK
        refine wp_store_row 54 (.tmp 7) (.tmp 21) rfl (w1.heap.size) (cells7 x (splitL pg wd nd) (splitS pg wd nd) y (splitR pg wd nd)) rfl rfl 54 zero7 hrow info54 rfl (own7 x y _ _ _) ?_
        refine hK.out _ _ hG.bl (fun _ => ?_)
        clear hK K
        try simp only [Act.put]
        repeat (apply tree_take; (exact rfl); rfl; (intro W hW; obtain ⟨⟨q0, q1⟩, ⟨q2, q3, q4⟩, q5⟩ := HF.out W hW; go_simp; (try with_reducible rfl)); simp only [Act.put, List.setIfInBounds_toArray, List.set_cons_zero, List.set_cons_succ])
        exact tree_done ⟨⟨⟨B0, d0, B1, d1, B2, d2⟩, x, y, w1.heap.size⟩, rfl, rfl, hG⟩
    ·
      have hnew : ((law2W w (.int .i64 pg) (.int .i64 wd) (.slice A0 nd.pairs.length c0) (.slice A1 nd.seps.length c1) (.slice A2 nd.kids.length c2)).drew.alloc (.cells zero7 54)).heap[w.heap.size + 1 + 1]? = some (.cells zero7 54 (0, 0)) := by
        have h := heap_alloc_new (law2W w (.int .i64 pg) (.int .i64 wd) (.slice A0 nd.pairs.length c0) (.slice A1 nd.seps.length c1) (.slice A2 nd.kids.length c2)).drew (.cells zero7 54)
        have e : (law2W w (.int .i64 pg) (.int .i64 wd) (.slice A0 nd.pairs.length c0) (.slice A1 nd.seps.length c1) (.slice A2 nd.kids.length c2)).drew.heap.size = w.heap.size + 1 + 1 := by simp
        rw [e] at h; exact h
      apply tree_run; (exact rfl); rfl; intro K hK; go_simp
      have hS1a := hS1.alloc (law2_size hS1) (.cells zero7 54)
      refine hK.out _ _ hS1a (fun _ => ?_)
      clear hK K
      try simp only [Act.put, List.setIfInBounds_toArray, List.set_cons_zero, List.set_cons_succ]
      apply tree_run; (exact rfl); rfl; intro K hK; go_simp
      refine (lent_c A0 A1 A2 c0 c1 c2 nd _ (HN.out.below (law2_below hS1a)) HR.out).mono ?_
      rintro e w1 ⟨B0, d0, B1, d1, B2, d2, rfl, hown, hb1⟩
      have hS2 := law2_next hS1a hb1
      have HX := Lib.hid (OwN.rd hown).short
      clear hown
      refine hK.out _ _ hS2 (fun _ => ?_)
      clear hK K
      try simp only [Act.put, List.setIfInBounds_toArray, List.set_cons_zero, List.set_cons_succ]
      apply tree_run; (exact rfl); rfl; intro K hK; go_simp
      refine (split_c pg wd B0 B1 B2 d0 d1 d2 nd _ HX.out).mono ?_
      rintro e w2 ⟨x, y, mid, rfl, hx, hy, hb2, hmid⟩
      have hS3 := law2_next hS2 hb2
      have hx := OwN.top hx
      have hy := OwN.top hy
      have HXX := Lib.hid hx
      have HYY := Lib.hid hy
      clear hx hy
      refine hK.out _ _ hS3 (fun _ => ?_)
      clear hK K
      try simp only [Act.put, List.setIfInBounds_toArray, List.set_cons_zero, List.set_cons_succ]
      repeat (apply tree_take; (exact rfl); rfl; (intro W hW; obtain ⟨⟨q0, q1⟩, ⟨q2, q3, q4⟩, q5⟩ := HF.out W hW; go_simp; (try with_reducible rfl)); simp only [Act.put, List.setIfInBounds_toArray, List.set_cons_zero, List.set_cons_succ])
      have hsz : w.heap.size + 1 + 1 + 1 ≤ w1.heap.size := by have := hb1.size; simp at this; omega
      have hrow := ((hb2.block (w.heap.size + 1 + 1) (by omega)).trans ((hb1.block (w.heap.size + 1 + 1) (by simp)).trans hnew))
      have hG := splitG_store (w := w) ⟨B0, d0, B1, d1, B2, d2⟩ x y (w.heap.size + 1 + 1) hS3 hrow (Nat.le_refl _) HXX.out (.inl (by omega)) HYY.out (.inl (by omega))
      apply tree_run; (exact rfl); rfl; intro K hK
      refine wp_store_row 54 (.tmp 7) (.tmp 21) rfl (w.heap.size + 1 + 1) (cells7 x (splitL pg wd nd) (splitS pg wd nd) y (splitR pg wd nd)) rfl rfl 54 zero7 hrow info54 rfl (own7 x y _ _ _) ?_
      refine hK.out _ _ hG.bl (fun _ => ?_)
      clear hK K
      try simp only [Act.put]
      repeat (apply tree_take; (exact rfl); rfl; (intro W hW; obtain ⟨⟨q0, q1⟩, ⟨q2, q3, q4⟩, q5⟩ := HF.out W hW; go_simp; (try with_reducible rfl)); simp only [Act.put, List.setIfInBounds_toArray, List.set_cons_zero, List.set_cons_succ])
      exact tree_done ⟨⟨⟨B0, d0, B1, d1, B2, d2⟩, x, y, w.heap.size + 1 + 1⟩, rfl, rfl, hG⟩
  case rest =>
    rintro ⟨b, x, y, g⟩ W hG
    obtain ⟨⟨s0, s1⟩, ⟨s2, s3, s4⟩, s5⟩ := two_boxes hG.bl
    obtain ⟨⟨r0, r1, r2⟩, r4, r5, r6⟩ := box7 hG.row
    have r3 : W.cell? ⟨g, 3, none⟩ = some (.string (splitS pg wd nd)) := cell_of_row _ _ 3 _ _ _ hG.row
    have hgW : g < W.heap.size := (Array.getElem?_eq_some_iff.1 hG.row).1
    have HG := Lib.hid hG
    have HNW := Lib.hid (HN.out.below (law2_below hG.bl))
    clear hG
    simp only [Act.put, List.setIfInBounds_toArray, List.set_cons_zero, List.set_cons_succ]
    by_cases hE : splitE pg wd nd = 0
    · have hE' : (splitE pg wd nd != 0) = false := by simp [hE]
      by_cases hk : 0 < nd.kids.length
      rotate_left
      · obtain ⟨ha, hl, hh, hsz⟩ := split_ways key hE (by omega)
        have hss : (splitS pg wd nd).size ≤ 140737488355328 := by
          obtain ⟨i, hi, h⟩ := hsz
          exact Nat.le_trans h (HNW.out.pk _ (List.getElem_mem hi)).1
        have HSS := Lib.hid hss
        have HL := Lib.hid HG.out.l
        have HRR := Lib.hid HG.out.r
        have HBL := Lib.hid HG.out.bl
        have HROW := Lib.hid HG.out.row
        clear HG hsz hss hE
        generalize splitE pg wd nd = E at *
        generalize splitL pg wd nd = L at *
        generalize splitR pg wd nd = R at *
        generalize splitS pg wd nd = s at *
        obtain ⟨b0, hb0⟩ : ∃ b0, findB nd.pairs key = b0 := ⟨_, rfl⟩
        obtain ⟨b1, hb1⟩ : ∃ b1, findB L.pairs key = b1 := ⟨_, rfl⟩
        obtain ⟨b2, hb2⟩ : ∃ b2, findB R.pairs key = b2 := ⟨_, rfl⟩
        obtain ⟨b3, hb3⟩ : ∃ b3, bl key s = b3 := ⟨_, rfl⟩
        rw [hb0, hb1, hb2] at ha
        rw [hb1, hb3] at hl
        rw [hb2, hb3] at hh
        have HB0 := Lib.hid hb0
        have HB1 := Lib.hid hb1
        have HB2 := Lib.hid hb2
        have HB3 := Lib.hid hb3
        have hlt : Op.bytesLess key.toList s.toList = b3 := hb3
        clear hb0 hb1 hb2 hb3
        cases b1 <;> cases b2 <;> cases b3 <;> (first | (exact absurd (hl rfl) (by decide)) | (exact absurd (hh rfl) (by decide)) | skip)
        all_goals
          simp only [Bool.or_false, Bool.or_true] at ha
          subst ha
          clear hl hh
          go_wp2_with (first
            | (go_at_call 21; go_must (
               refine (lent_c A0 A1 A2 c0 c1 c2 nd _ HNW.out HR.out).mono ?_; rintro e w1 ⟨B0, d0, B1, d1, B2, d2, rfl, hown, hb1⟩
               have HX := Lib.hid (OwN.rd hown).short
               have HL1 := Lib.hid (HL.out.below hb1)
               have HR1 := Lib.hid (HRR.out.below hb1)
               have HBL1 := Lib.hid (law2_next HBL.out hb1)
               have hrow := (hb1.block _ hgW).trans HROW.out
               clear hown hb1 s0 s1 s2 s3 s4 s5 r0 r1 r2 r3 r4 r5 r6 hgW HL HRR HBL HROW
               obtain ⟨⟨r0, r1, r2⟩, r4, r5, r6⟩ := box7 hrow
               have r3 : w1.cell? ⟨g, 3, none⟩ = some (.string s) := cell_of_row _ _ 3 _ _ _ hrow
               have hgW : g < w1.heap.size := (Array.getElem?_eq_some_iff.1 hrow).1
               have HROW := Lib.hid hrow
               clear hrow))
            | (go_at_call 42; skip; (
               refine (find_v B0 B1 B2 d0 d1 d2 nd key _ HX.out _ HB0.out).mono ?_; rintro e w2 ⟨rfl, hb2⟩
               have HL2 := Lib.hid (HL1.out.below hb2)
               have HR2 := Lib.hid (HR1.out.below hb2)
               have HBL2 := Lib.hid (law2_next HBL1.out hb2)
               have hrow := (hb2.block _ hgW).trans HROW.out
               clear hb2 r0 r1 r2 r3 r4 r5 r6 hgW HL1 HR1 HBL1 HROW HX
               obtain ⟨⟨r0, r1, r2⟩, r4, r5, r6⟩ := box7 hrow
               have r3 : w2.cell? ⟨g, 3, none⟩ = some (.string s) := cell_of_row _ _ 3 _ _ _ hrow
               have hgW : g < w2.heap.size := (Array.getElem?_eq_some_iff.1 hrow).1
               have HROW := Lib.hid hrow
               clear hrow))
            | (go_at_call 42; skip; (
               refine (find_v _ _ _ _ _ _ L key _ HL2.out _ HB1.out).mono ?_; rintro e w3 ⟨rfl, hb3⟩
               have HR3 := Lib.hid (HR2.out.below hb3)
               have HBL3 := Lib.hid (law2_next HBL2.out hb3)
               have hrow := (hb3.block _ hgW).trans HROW.out
               clear hb3 r0 r1 r2 r3 r4 r5 r6 hgW HL2 HR2 HBL2 HROW
               obtain ⟨⟨r0, r1, r2⟩, r4, r5, r6⟩ := box7 hrow
               have r3 : w3.cell? ⟨g, 3, none⟩ = some (.string s) := cell_of_row _ _ 3 _ _ _ hrow
               have hgW : g < w3.heap.size := (Array.getElem?_eq_some_iff.1 hrow).1
               have HROW := Lib.hid hrow
               clear hrow))
            | (go_at_call 42; go_must (
               refine (find_v _ _ _ _ _ _ R key _ HR3.out _ HB2.out).mono ?_; rintro e w4 ⟨rfl, hb4⟩
               have HBL4 := Lib.hid (law2_next HBL3.out hb4)
               have hrow := (hb4.block _ hgW).trans HROW.out
               clear hb4 r0 r1 r2 r3 r4 r5 r6 hgW HR3 HBL3 HROW
               obtain ⟨⟨r0, r1, r2⟩, r4, r5, r6⟩ := box7 hrow
               have r3 : w4.cell? ⟨g, 3, none⟩ = some (.string s) := cell_of_row _ _ 3 _ _ _ hrow
               have hgW : g < w4.heap.size := (Array.getElem?_eq_some_iff.1 hrow).1
               have HROW := Lib.hid hrow
               clear hrow))
            | (go_at_call 44; go_must (
               refine (way_v s key _ _ (sepN_rd w4 s _ rfl HSS.out) _ (by rw [HB3.out])).mono ?_; rintro e w5 ⟨rfl, hb5⟩
               have HBL5 := Lib.hid (law2_next HBL4.out (below_a hb5))
               have hrow := ((below_a hb5).block _ hgW).trans HROW.out
               clear hb5 r0 r1 r2 r3 r4 r5 r6 hgW HBL4 HROW
               have r3 : w5.cell? ⟨g, 3, none⟩ = some (.string s) := cell_of_row _ _ 3 _ _ _ hrow
               have hgW : g < w5.heap.size := (Array.getElem?_eq_some_iff.1 hrow).1
               clear hrow))
            | (go_at_call 20; refine (awake_c _).mono ?_; rintro e w8 ⟨rfl, hb8⟩))
          go_ret
          exact ⟨rfl, law2_below (law2_next HBL5.out hb8)⟩
      · clear hE
        generalize splitE pg wd nd = E at *
        go_wp2_with (first
          | (go_at_call 20; refine (awake_c _).mono ?_; rintro e w8 ⟨rfl, hb8⟩))
        go_ret
        exact ⟨rfl, law2_below (law2_next HG.out.bl hb8)⟩
    · have hE' : (splitE pg wd nd != 0) = true := by simp [hE]
      generalize splitE pg wd nd = E at *
      go_wp2_with (first
        | (go_at_call 20; refine (awake_c _).mono ?_; rintro e w8 ⟨rfl, hb8⟩))
      go_ret
      exact ⟨rfl, law2_below (law2_next HG.out.bl hb8)⟩

end Go.Proofs.Ytajkoeodabmgeaa
