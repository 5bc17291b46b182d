import Derived.Test.YtajkoeodabmgeaaZ11
import Derived.Test.YtajkoeodabmgeaaT2
namespace Go.Proofs.Ytajkoeodabmgeaa
open Go.RowKit
set_option maxHeartbeats 2000000
set_option maxRecDepth 100000
attribute [local go_sem] grow_cell grow_frozen grow_size

abbrev zero3 : Array Value := #[.slice none 0 0, .slice none 0 0, .slice none 0 0]
abbrev boxc3 (B : Option Addr) (d : Nat) (nd : NodeD) : Array Value := #[.slice B nd.pairs.length d, .slice none nd.seps.length 0, .slice none nd.kids.length 0]
structure PutX where
  b : VH
  B : Option Addr
  d : Nat
  g : Nat
structure PutG (w0 : World) (L : Nat) (R : NodeD) (X : PutX) (W : World) : Prop where
  bl : Below L w0 W
  row : W.heap[X.g]? = some (.cells (boxc3 X.B X.d R) 29 (0, 0))
  lo : L ≤ X.g
  r : RdN W X.B X.d none 0 none 0 R
theorem putG_store {w0 W : World} {L : Nat} {R : NodeD} (b : VH) (C : Option Addr) (cc : Nat) (g : Nat) {l1 h1 : Nat} (hb : Below L w0 W) {old : Array Value} (hrow : W.heap[g]? = some (.cells old 29 (0, 0))) (hlo : L ≤ g)
    (hx : OwN W l1 h1 C cc none 0 none 0 R) (hxg : g < l1 ∨ h1 ≤ g) : PutG w0 L R ⟨b, C, cc, g⟩ (W.setRow g (boxc3 C cc R)) :=
  ⟨below_setRow hb hlo _, setRow_block _ _ _ _ _ _ hrow, hlo, (OwN.setRow' hx g _ hxg).rd⟩

theorem find_i (A0 A1 A2 : Option Addr) (c0 c1 c2 : Nat) (nd : NodeD) (key : ByteArray) (w : World) (hN : RdN w A0 c0 A1 c1 A2 c2 nd) (b : Bool) (hb : findB nd.pairs key = b) (i : Nat) (hi : findI nd.pairs key = i) :
    Calls Try.prog 42 #[vN A0 c0 A1 c1 A2 c2 nd, .string key] w fun e w' => e = .returned (.tuple #[.int .i64 i, .bool b]) ∧ Below w.heap.size w w' := by
  subst hb hi; exact find_c A0 A1 A2 c0 c1 c2 nd key w hN
theorem same_v (A0 A1 A2 B0 B1 B2 : Option Addr) (c0 c1 c2 d0 d1 d2 : Nat) (nd nd' : NodeD) (w : World) (he : nd = nd') (hA : RdN w A0 c0 A1 c1 A2 c2 nd) (hB : RdN w B0 d0 B1 d1 B2 d2 nd') :
    Calls Try.prog 50 #[vN A0 c0 A1 c1 A2 c2 nd, vN B0 d0 B1 d1 B2 d2 nd'] w fun e w' => e = .returned (.bool true) ∧ Below w.heap.size w w' := by
  subst he; exact same_c A0 A1 A2 B0 B1 B2 c0 c1 c2 d0 d1 d2 nd w hA hB

theorem back_law (pg wd : Int) (A0 A1 A2 : Option Addr) (c0 c1 c2 : Nat) (nd : NodeD) (p : PairD) (w : World) (hN : RdN w A0 c0 A1 c1 A2 c2 nd) (hR : Room 8 nd) (hpp : p.k.size ≤ 140737488355328 ∧ p.v.size ≤ 140737488355328) :
    Calls Try.prog 15 #[vF pg wd, vN A0 c0 A1 c1 A2 c2 nd, vP p] w fun e w' => e = .returned (.bool true) ∧ Below w.heap.size w w' := by
  have hroom : (nd.pairs.length + 1) * 32 ≤ 140737488355328 := by have := hR.p; omega
  have hroom2 : ((putR pg wd nd p).pairs.length + 1) * 32 ≤ 140737488355328 := by have := (putR_room (pg := pg) (wd := wd) (p := p) hR).p; omega
  have HN := Lib.hid hN
  have HR : Hid (Room 4 nd) := ⟨by have := hR.p; omega, by have := hR.s; omega, by have := hR.k; omega⟩
  have HPP := Lib.hid hpp
  have HRM := Lib.hid hroom
  have HRM2 := Lib.hid hroom2
  have HP := Lib.hid (back_plain pg wd nd p)
  clear hN hR hpp hroom hroom2
  go_enter Try.func15, Try.ntmps15
  go_wp2
  refine region_mid (α := PutX) (fun X a => ((((((((((((a.put (some 24) (vF pg wd)).put (some 25) (vN A0 c0 A1 c1 A2 c2 nd)).put (some 27) (vP p)).put (some 26) (vN X.b.A0 X.b.c0 X.b.A1 X.b.c1 X.b.A2 X.b.c2 nd)).put (some 28) (.tuple #[vN X.B X.d none 0 none 0 (putR pg wd nd p), .bool (putB pg wd nd p), .int .i64 (putE pg wd nd p)])).put (some 23) (.tuple #[vN X.B X.d none 0 none 0 (putR pg wd nd p), .bool (putB pg wd nd p), .int .i64 (putE pg wd nd p)])).put (some 29) (vN X.B X.d none 0 none 0 (putR pg wd nd p))).put (some 30) (.bool (putB pg wd nd p))).put (some 31) (.int .i64 (putE pg wd nd p))).put (some 7) (.pointer (some ⟨X.g, 0, none⟩))).put (some 8) (.bool (putB pg wd nd p))).put (some 9) (.int .i64 (putE pg wd nd p)))) (fun X W => PutG (lawW w (.int .i64 pg) (.int .i64 wd) (.slice A0 nd.pairs.length c0) (.slice A1 nd.seps.length c1) (.slice A2 nd.kids.length c2) (.string p.k) (.string p.v)) (w.heap.size + 1 + 1 + 1) (putR pg wd nd p) X W) ?region ?rest
  case region =>
    have hS1 : Below (w.heap.size + 1 + 1 + 1) (lawW w (.int .i64 pg) (.int .i64 wd) (.slice A0 nd.pairs.length c0) (.slice A1 nd.seps.length c1) (.slice A2 nd.kids.length c2) (.string p.k) (.string p.v)) (lawW w (.int .i64 pg) (.int .i64 wd) (.slice A0 nd.pairs.length c0) (.slice A1 nd.seps.length c1) (.slice A2 nd.kids.length c2) (.string p.k) (.string p.v)) := Below.refl _ _
    have HF := Lib.hid (fun W (h : Below (w.heap.size + 1 + 1 + 1) (lawW w (.int .i64 pg) (.int .i64 wd) (.slice A0 nd.pairs.length c0) (.slice A1 nd.seps.length c1) (.slice A2 nd.kids.length c2) (.string p.k) (.string p.v)) W) => lawW_boxes h)
    refine wp_region_tree (S := Below (w.heap.size + 1 + 1 + 1) (lawW w (.int .i64 pg) (.int .i64 wd) (.slice A0 nd.pairs.length c0) (.slice A1 nd.seps.length c1) (.slice A2 nd.kids.length c2) (.string p.k) (.string p.v)))
      (.take 0 (.take 1 (.take 3 (.two 2 9 (.two 4 9 (.take 5 (.take 6 (.take 7 (.take 8 (.run 9 (.run 10 (.take 11 (.take 12 (.done))))))))) (.run 4 (.take 5 (.take 6 (.take 7 (.take 8 (.run 10 (.take 11 (.take 12 (.done)))))))))) (.run 2 (.run 4 (.take 5 (.take 6 (.take 7 (.take 8 (.run 10 (.take 11 (.take 12 (.done))))))))))))))
      (by kernel_rfl) (by kernel_rfl) (by kernel_rfl) (by rintro c a d v W ⟨X, h, _⟩; cases h) hS1.drew ?_
    repeat (apply tree_take; (exact rfl); rfl; (intro W hW; obtain ⟨⟨q0, q1⟩, ⟨q2, q3, q4⟩, q5, q6⟩ := HF.out W hW; go_simp; (try with_reducible rfl)); simp only [Act.put, List.setIfInBounds_toArray, List.set_cons_zero, List.set_cons_succ])
    have hS1 := hS1.drew
    refine tree_two ?_ ?_
    ·
      apply tree_run; (exact rfl); rfl; intro K hK; go_simp
      refine (lent_c A0 A1 A2 c0 c1 c2 nd _ (HN.out.below (lawW_below hS1)) HR.out).mono ?_
      rintro e w1 ⟨B0, d0, B1, d1, B2, d2, rfl, hown, hb1⟩
      have hS2 := lawW_next hS1 hb1
      have HX := Lib.hid (OwN.rd hown).short
      clear hown
      refine hK.out _ _ hS2 (fun _ => ?_)
      clear hK K
      try simp only [Act.put, List.setIfInBounds_toArray, List.set_cons_zero, List.set_cons_succ]
      refine tree_two ?_ ?_
      ·
        apply tree_run; (exact rfl); rfl; intro K hK; go_simp
        refine (put_c pg wd B0 B1 B2 d0 d1 d2 nd p _ HX.out HRM.out HPP.out).mono ?_
        rintro e w2 ⟨C, cc, rfl, hx, hb2⟩
        have hS3 := lawW_next hS2 hb2
        have HXX := Lib.hid hx
        clear hx
        refine hK.out _ _ hS3 (fun _ => ?_)
        clear hK K
        try simp only [Act.put, List.setIfInBounds_toArray, List.set_cons_zero, List.set_cons_succ]
        repeat (apply tree_take; (exact rfl); rfl; (intro W hW; obtain ⟨⟨q0, q1⟩, ⟨q2, q3, q4⟩, q5, q6⟩ := HF.out W hW; go_simp; (try with_reducible rfl)); simp only [Act.put, List.setIfInBounds_toArray, List.set_cons_zero, List.set_cons_succ])
        apply tree_run; (exact rfl); rfl; intro K hK; go_simp
        have hS3a := hS3.alloc (lawW_size hS3) (.cells zero3 29)
        refine hK.out _ _ hS3a (fun _ => ?_)
        clear hK K
        try simp only [Act.put, List.setIfInBounds_toArray, List.set_cons_zero, List.set_cons_succ]
        have hrow := heap_alloc_new w2 (.cells zero3 29)
        have hG := putG_store ⟨B0, d0, B1, d1, B2, d2⟩ C cc (w2.heap.size) hS3a hrow (lawW_size hS3) (OwN.below HXX.out ((Below.refl _ _).alloc (Nat.le_refl _) _)) (.inr (Nat.le_refl _))
        apply tree_run; (exact rfl); rfl; intro K hK
        refine wp_store_row 29 (.tmp 7) (.tmp 29) rfl (w2.heap.size) (boxc3 C cc (putR pg wd nd p)) rfl rfl 29 zero3 hrow info29' rfl (sl3_one _ _ _ _ _ _ _ _ _) ?_
        refine hK.out _ _ hG.bl (fun _ => ?_)
        clear hK K
        try simp only [Act.put]
        repeat (apply tree_take; (exact rfl); rfl; (intro W hW; obtain ⟨⟨q0, q1⟩, ⟨q2, q3, q4⟩, q5, q6⟩ := HF.out W hW; go_simp; (try with_reducible rfl)); simp only [Act.put, List.setIfInBounds_toArray, List.set_cons_zero, List.set_cons_succ])
        exact tree_done ⟨⟨⟨B0, d0, B1, d1, B2, d2⟩, C, cc, w2.heap.size⟩, rfl, rfl, hG⟩
      ·
        apply tree_run; (exact rfl); rfl; intro K hK; go_simp
        have hS2a := hS2.alloc (lawW_size hS2) (.cells zero3 29)
        refine hK.out _ _ hS2a (fun _ => ?_)
        clear hK K
        try simp only [Act.put, List.setIfInBounds_toArray, List.set_cons_zero, List.set_cons_succ]
        apply tree_run; (exact rfl); rfl; intro K hK; go_simp
        refine (put_c pg wd B0 B1 B2 d0 d1 d2 nd p _ (HX.out.below ((Below.refl _ _).alloc (Nat.le_refl _) _)) HRM.out HPP.out).mono ?_
        rintro e w2 ⟨C, cc, rfl, hx, hb2⟩
        have hS3 := lawW_next hS2a hb2
        have HXX := Lib.hid hx
        clear hx
        refine hK.out _ _ hS3 (fun _ => ?_)
        clear hK K
        try simp only [Act.put, List.setIfInBounds_toArray, List.set_cons_zero, List.set_cons_succ]
        repeat (apply tree_take; (exact rfl); rfl; (intro W hW; obtain ⟨⟨q0, q1⟩, ⟨q2, q3, q4⟩, q5, q6⟩ := HF.out W hW; go_simp; (try with_reducible rfl)); simp only [Act.put, List.setIfInBounds_toArray, List.set_cons_zero, List.set_cons_succ])
        have hrow := ((hb2.block w1.heap.size (by simp)).trans (heap_alloc_new w1 (.cells zero3 29)))
        have hG := putG_store ⟨B0, d0, B1, d1, B2, d2⟩ C cc (w1.heap.size) hS3 hrow (lawW_size hS2) HXX.out (.inl (by simp))
        apply tree_run; (exact rfl); rfl; intro K hK
        refine wp_store_row 29 (.tmp 7) (.tmp 29) rfl (w1.heap.size) (boxc3 C cc (putR pg wd nd p)) rfl rfl 29 zero3 hrow info29' rfl (sl3_one _ _ _ _ _ _ _ _ _) ?_
        refine hK.out _ _ hG.bl (fun _ => ?_)
        clear hK K
        try simp only [Act.put]
        repeat (apply tree_take; (exact rfl); rfl; (intro W hW; obtain ⟨⟨q0, q1⟩, ⟨q2, q3, q4⟩, q5, q6⟩ := HF.out W hW; go_simp; (try with_reducible rfl)); simp only [Act.put, List.setIfInBounds_toArray, List.set_cons_zero, List.set_cons_succ])
        exact tree_done ⟨⟨⟨B0, d0, B1, d1, B2, d2⟩, C, cc, w1.heap.size⟩, rfl, rfl, hG⟩
    ·
      have hnew : ((lawW w (.int .i64 pg) (.int .i64 wd) (.slice A0 nd.pairs.length c0) (.slice A1 nd.seps.length c1) (.slice A2 nd.kids.length c2) (.string p.k) (.string p.v)).drew.alloc (.cells zero3 29)).heap[w.heap.size + 1 + 1 + 1]? = some (.cells zero3 29 (0, 0)) := by
        have h := heap_alloc_new (lawW w (.int .i64 pg) (.int .i64 wd) (.slice A0 nd.pairs.length c0) (.slice A1 nd.seps.length c1) (.slice A2 nd.kids.length c2) (.string p.k) (.string p.v)).drew (.cells zero3 29)
        have e : (lawW w (.int .i64 pg) (.int .i64 wd) (.slice A0 nd.pairs.length c0) (.slice A1 nd.seps.length c1) (.slice A2 nd.kids.length c2) (.string p.k) (.string p.v)).drew.heap.size = w.heap.size + 1 + 1 + 1 := by first | rfl | simp
        rw [e] at h; exact h
      apply tree_run; (exact rfl); rfl; intro K hK; go_simp
      have hS1a := hS1.alloc (lawW_size hS1) (.cells zero3 29)
      refine hK.out _ _ hS1a (fun _ => ?_)
      clear hK K
      try simp only [Act.put, List.setIfInBounds_toArray, List.set_cons_zero, List.set_cons_succ]
      apply tree_run; (exact rfl); rfl; intro K hK; go_simp
      refine (lent_c A0 A1 A2 c0 c1 c2 nd _ (HN.out.below (lawW_below hS1a)) HR.out).mono ?_
      rintro e w1 ⟨B0, d0, B1, d1, B2, d2, rfl, hown, hb1⟩
      have hS2 := lawW_next hS1a hb1
      have HX := Lib.hid (OwN.rd hown).short
      clear hown
      refine hK.out _ _ hS2 (fun _ => ?_)
      clear hK K
      try simp only [Act.put, List.setIfInBounds_toArray, List.set_cons_zero, List.set_cons_succ]
      apply tree_run; (exact rfl); rfl; intro K hK; go_simp
      refine (put_c pg wd B0 B1 B2 d0 d1 d2 nd p _ HX.out HRM.out HPP.out).mono ?_
      rintro e w2 ⟨C, cc, rfl, hx, hb2⟩
      have hS3 := lawW_next hS2 hb2
      have HXX := Lib.hid hx
      clear hx
      refine hK.out _ _ hS3 (fun _ => ?_)
      clear hK K
      try simp only [Act.put, List.setIfInBounds_toArray, List.set_cons_zero, List.set_cons_succ]
      repeat (apply tree_take; (exact rfl); rfl; (intro W hW; obtain ⟨⟨q0, q1⟩, ⟨q2, q3, q4⟩, q5, q6⟩ := HF.out W hW; go_simp; (try with_reducible rfl)); simp only [Act.put, List.setIfInBounds_toArray, List.set_cons_zero, List.set_cons_succ])
      have hsz : w.heap.size + 1 + 1 + 1 + 1 ≤ w1.heap.size := by have := hb1.size; simp at this; omega
      have hrow := ((hb2.block (w.heap.size + 1 + 1 + 1) (by omega)).trans ((hb1.block (w.heap.size + 1 + 1 + 1) (by simp)).trans hnew))
      have hG := putG_store ⟨B0, d0, B1, d1, B2, d2⟩ C cc (w.heap.size + 1 + 1 + 1) hS3 hrow (Nat.le_refl _) HXX.out (.inl (by omega))
      apply tree_run; (exact rfl); rfl; intro K hK
      refine wp_store_row 29 (.tmp 7) (.tmp 29) rfl (w.heap.size + 1 + 1 + 1) (boxc3 C cc (putR pg wd nd p)) rfl rfl 29 zero3 hrow info29' rfl (sl3_one _ _ _ _ _ _ _ _ _) ?_
      refine hK.out _ _ hG.bl (fun _ => ?_)
      clear hK K
      try simp only [Act.put]
      repeat (apply tree_take; (exact rfl); rfl; (intro W hW; obtain ⟨⟨q0, q1⟩, ⟨q2, q3, q4⟩, q5, q6⟩ := HF.out W hW; go_simp; (try with_reducible rfl)); simp only [Act.put, List.setIfInBounds_toArray, List.set_cons_zero, List.set_cons_succ])
      exact tree_done ⟨⟨⟨B0, d0, B1, d1, B2, d2⟩, C, cc, w.heap.size + 1 + 1 + 1⟩, rfl, rfl, hG⟩
  case rest =>
    rintro ⟨b, C, cc, g⟩ W hG
    obtain ⟨⟨s0, s1⟩, ⟨s2, s3, s4⟩, s5, s6⟩ := lawW_boxes hG.bl
    obtain ⟨⟨r0, r1, r2⟩, _⟩ := box_facts hG.row
    have hgW : g < W.heap.size := (Array.getElem?_eq_some_iff.1 hG.row).1
    have HG := Lib.hid hG
    clear hG
    simp only [Act.put, List.setIfInBounds_toArray, List.set_cons_zero, List.set_cons_succ]
    by_cases hE : putE pg wd nd p = 0
    · obtain ⟨f1, f2, f3⟩ := HP.out.found hE
      obtain ⟨g1, g2, g3⟩ := HP.out.again hE
      obtain ⟨l1, l2, l3⟩ := HP.out.less hE
      obtain ⟨t1, t2, t3⟩ := HP.out.still hE
      have HRD := Lib.hid HG.out.r
      have HBL := Lib.hid HG.out.bl
      have HROW := Lib.hid HG.out.row
      clear HP HG HRM
      obtain ⟨b', hb'⟩ : ∃ b', putB pg wd nd p = b' := ⟨_, rfl⟩
      rw [hb'] at f3 l3
      rw [hb', hE]
      generalize hR : putR pg wd nd p = R at *
      obtain ⟨LE, hLE⟩ : ∃ LE, remR pg wd R p.k = LE := ⟨_, rfl⟩
      rw [hLE] at l3 t1 t2 t3
      have HPUT : Hid (∀ (A0 A1 A2 : Option Addr) (c0 c1 c2 : Nat) (w : World), RdN w A0 c0 A1 c1 A2 c2 R → Calls Try.prog 22 #[vF pg wd, vN A0 c0 A1 c1 A2 c2 R, vP p] w fun e w' =>
          ∃ B0 d0, e = .returned (.tuple #[vN B0 d0 none 0 none 0 R, .bool true, .int .i64 0]) ∧ OwN w' w.heap.size w'.heap.size B0 d0 none 0 none 0 R ∧ Below w.heap.size w w') := by
        refine Lib.hid ?_
        intro A0 A1 A2 c0 c1 c2 w h
        have := put_c pg wd A0 A1 A2 c0 c1 c2 R p w h HRM2.out HPP.out
        rwa [g1, g2, g3] at this
      have HREM : Hid (∀ (A0 A1 A2 : Option Addr) (c0 c1 c2 : Nat) (w : World), RdN w A0 c0 A1 c1 A2 c2 R → Calls Try.prog 48 #[vF pg wd, vN A0 c0 A1 c1 A2 c2 R, .string p.k] w fun e w' =>
          ∃ B0 d0 B1 d1 B2 d2, e = .returned (.tuple #[vN B0 d0 B1 d1 B2 d2 LE, .bool true, .int .i64 0]) ∧ OwN w' w.heap.size w'.heap.size B0 d0 B1 d1 B2 d2 LE ∧ Below w.heap.size w w') := by
        refine Lib.hid ?_
        intro A0 A1 A2 c0 c1 c2 w h
        have := remove_c pg wd A0 A1 A2 c0 c1 c2 R p.k w h
        unfold RemPost at this
        rwa [l1, l2, hLE] at this
      have HREM2 : Hid (∀ (A0 A1 A2 : Option Addr) (c0 c1 c2 : Nat) (w : World), RdN w A0 c0 A1 c1 A2 c2 LE → Calls Try.prog 48 #[vF pg wd, vN A0 c0 A1 c1 A2 c2 LE, .string p.k] w fun e w' =>
          ∃ B0 d0 B1 d1 B2 d2, e = .returned (.tuple #[vN B0 d0 B1 d1 B2 d2 LE, .bool false, .int .i64 0]) ∧ OwN w' w.heap.size w'.heap.size B0 d0 B1 d1 B2 d2 LE ∧ Below w.heap.size w w') := by
        refine Lib.hid ?_
        intro A0 A1 A2 c0 c1 c2 w h
        have := remove_c pg wd A0 A1 A2 c0 c1 c2 LE p.k w h
        unfold RemPost at this
        rwa [t1, t2, t3] at this
      obtain ⟨i, hi⟩ : ∃ i, findI R.pairs p.k = i := ⟨_, rfl⟩
      rw [hi] at f2
      obtain ⟨hlt, hpi⟩ := List.getElem?_eq_some_iff.1 f2
      obtain ⟨ab, ao, hC⟩ : ∃ ab ao, C = some ⟨ab, ao, none⟩ := by obtain ⟨ab, ao, h, _⟩ := pairs_at HRD.out.pairs hlt; exact ⟨ab, ao, h⟩
      have HI := Lib.hid hi
      have HPI := Lib.hid (⟨hlt, hpi⟩ : ∃ h : i < R.pairs.length, R.pairs[i]'h = p)
      clear hpi hlt
      have HLE := Lib.hid l3
      have HF1 := Lib.hid f1
      have HF3 := Lib.hid f3
      subst hC
      clear hE hb' g1 g2 g3 l1 l2 l3 t1 t2 t3 hLE hR hi f1 f2 f3 HRM2
      cases b'
      all_goals
        go_wp2_with (first
          | (go_at_call 42; go_must (
             refine (find_i _ _ _ _ _ _ R p.k _ HRD.out _ HF1.out _ HI.out).mono ?_; rintro e w1 ⟨rfl, hb1⟩
             have HRD1 := Lib.hid (HRD.out.below hb1)
             have HBL1 := lawW_next HBL.out hb1
             have hrow := (hb1.block _ hgW).trans HROW.out
             clear hb1 s0 s1 s2 s3 s4 s5 s6 r0 r1 r2 hgW HRD HBL HROW)))
        have HF := Lib.hid (fun W (h : Below (w.heap.size + 1 + 1 + 1) (lawW w (.int .i64 pg) (.int .i64 wd) (.slice A0 nd.pairs.length c0) (.slice A1 nd.seps.length c1) (.slice A2 nd.kids.length c2) (.string p.k) (.string p.v)) W) => lawW_boxes h)
        refine wp_region_tree (S := Below (w.heap.size + 1 + 1 + 1) (lawW w (.int .i64 pg) (.int .i64 wd) (.slice A0 nd.pairs.length c0) (.slice A1 nd.seps.length c1) (.slice A2 nd.kids.length c2) (.string p.k) (.string p.v))) (.take 0 (.take 2 (.take 3 (.run 1 (.run 4 (.take 5 (.take 6 (.take 7 (.take 8 (.take 9 (.done))))))))))) (by kernel_rfl) (by kernel_rfl) (by kernel_rfl) (fun _ _ d _ _ h => by cases d <;> exact h) HBL1.drew ?_
        repeat (apply tree_take; (exact rfl); rfl; (intro W hW; obtain ⟨⟨q0, q1⟩, ⟨q2, q3, q4⟩, q5, q6⟩ := HF.out W hW; go_simp; (try with_reducible rfl)); simp only [Act.put, List.setIfInBounds_toArray, List.set_cons_zero, List.set_cons_succ])
        apply tree_run; (exact rfl); rfl; intro K hK; go_simp
        refine (lent_c A0 A1 A2 c0 c1 c2 nd _ (HN.out.below (lawW_below HBL1.drew)) HR.out).mono ?_
        rintro e w2 ⟨B0, d0, B1, d1, B2, d2, rfl, hown, hb2⟩
        have hS2 := lawW_next HBL1.drew hb2
        have HX := Lib.hid (OwN.rd hown).short
        clear hown
        refine hK.out _ _ hS2 (fun _ => ?_)
        clear hK K
        try simp only [Act.put, List.setIfInBounds_toArray, List.set_cons_zero, List.set_cons_succ]
        apply tree_run; (exact rfl); rfl; intro K hK; go_simp
        refine (find_i B0 B1 B2 d0 d1 d2 nd p.k _ HX.out _ HF3.out _ rfl).mono ?_
        rintro e w3 ⟨rfl, hb3⟩
        have hS3 := lawW_next hS2 hb3
        refine hK.out _ _ hS3 (fun _ => ?_)
        clear hK K
        try simp only [Act.put, List.setIfInBounds_toArray, List.set_cons_zero, List.set_cons_succ]
        repeat (apply tree_take; (exact rfl); rfl; (intro W hW; go_simp; (try with_reducible rfl)); simp only [Act.put, List.setIfInBounds_toArray, List.set_cons_zero, List.set_cons_succ])
        refine tree_done ?_
        have hgW : g < w1.heap.size := (Array.getElem?_eq_some_iff.1 hrow).1
        have hrow := (hb3.block _ (Nat.lt_of_lt_of_le hgW hb2.size)).trans ((hb2.block _ (by exact hgW)).trans hrow)
        have hRD3 := (HRD1.out.below (((Below.refl w1.heap.size w1).drew.trans hb2).trans (hb3.mono hb2.size)))
        clear hgW
        have hgW : g < w3.heap.size := (Array.getElem?_eq_some_iff.1 hrow).1
        have HROW := Lib.hid hrow
        have HRD3 := Lib.hid hRD3
        have HBL3 := Lib.hid hS3
        obtain ⟨⟨r0, r1, r2⟩, _⟩ := box_facts hrow
        obtain ⟨⟨s0, s1⟩, ⟨s2, s3, s4⟩, s5, s6⟩ := lawW_boxes hS3
        obtain ⟨hlt, hpi⟩ := HPI.out
        obtain ⟨ab', ao', hC', hk0, hk1⟩ := pairs_at hRD3.pairs hlt
        obtain ⟨rfl, rfl⟩ : ab' = ab ∧ ao' = ao := by cases hC'; exact ⟨rfl, rfl⟩
        rw [hpi] at hk0 hk1
        have habl : ab' < w3.heap.size := World.block_lt_of_cell? _ _ hk0
        have hki : (i : Int) < R.pairs.length := by omega
        have hz := lawW_size hS3
        have z0 : w.heap.size < w3.heap.size := by omega
        have z1 : w.heap.size + 1 < w3.heap.size := by omega
        have z2 : w.heap.size + 1 + 1 < w3.heap.size := by omega
        clear hrow hRD3 hS3 hS2 hb2 hb3 hC' HBL1 HRD1 HX HF HI HF1 HF3
        go_wp2
        refine wp_region_grow (by kernel_rfl) (by kernel_rfl) ?_
        repeat (any_goals (first | go_big_quiet_step (fail) | quiet_step (fail)))
        refine wpQuiet_nil ?_
        intro w4 hb4
        have HROW4 := Lib.hid ((hb4.block _ hgW).trans HROW.out)
        have HRD4 := Lib.hid (HRD3.out.below hb4)
        have HBL4 := Lib.hid (lawW_next HBL3.out hb4)
        clear s0 s1 s2 s3 s4 s5 s6 hz z0 z1 z2 r0 r1 r2 hk0 hk1 habl hki hgW hb4 HROW HRD3 HBL3
        obtain ⟨⟨s0, s1⟩, ⟨s2, s3, s4⟩, s5, s6⟩ := lawW_boxes HBL4.out
        have hz := lawW_size HBL4.out
        have z0 : w.heap.size < w4.heap.size := (by omega)
        have z1 : w.heap.size + 1 < w4.heap.size := (by omega)
        have z2 : w.heap.size + 1 + 1 < w4.heap.size := (by omega)
        have hgW : g < w4.heap.size := (Array.getElem?_eq_some_iff.1 HROW4.out).1
        obtain ⟨⟨r0, r1, r2⟩, _⟩ := box_facts HROW4.out
        go_wp2_with (first
          | (go_at_call 22; go_must (
             refine (HPUT.out _ _ _ _ _ _ _ HRD4.out).mono ?_; rintro e w5 ⟨D0, f0, rfl, hown, hb5⟩
             have HROW5 := Lib.hid ((hb5.block _ hgW).trans HROW4.out)
             have HRD5 := Lib.hid (HRD4.out.below hb5)
             have HBL5 := Lib.hid (lawW_next HBL4.out hb5)
             have HB5 := Lib.hid hown.rd
             clear s0 s1 s2 s3 s4 s5 s6 hz z0 z1 z2 r0 r1 r2 hgW hown hb5 HROW4 HRD4 HBL4 HPUT
             obtain ⟨⟨s0, s1⟩, ⟨s2, s3, s4⟩, s5, s6⟩ := lawW_boxes HBL5.out
             have hz := lawW_size HBL5.out
             have z0 : w.heap.size < w5.heap.size := (by omega)
             have z1 : w.heap.size + 1 < w5.heap.size := (by omega)
             have z2 : w.heap.size + 1 + 1 < w5.heap.size := (by omega)
             have hgW : g < w5.heap.size := (Array.getElem?_eq_some_iff.1 HROW5.out).1
             obtain ⟨⟨r0, r1, r2⟩, _⟩ := box_facts HROW5.out))
          | (go_at_call 50; skip; (
             refine (same_v _ _ _ _ _ _ _ _ _ _ _ _ R R _ rfl (HB5.out.below ((Below.refl _ _).alloc (Nat.le_refl _) _)) (HRD5.out.below ((Below.refl _ _).alloc (Nat.le_refl _) _))).mono ?_; rintro e w6 ⟨rfl, hb6⟩
             have HROW6 := Lib.hid (((below_a hb6).block _ hgW).trans HROW5.out)
             have HRD6 := Lib.hid (HRD5.out.below (below_a hb6))
             have HBL6 := Lib.hid (lawW_next HBL5.out (below_a hb6))
             clear s0 s1 s2 s3 s4 s5 s6 hz z0 z1 z2 r0 r1 r2 hgW hb6 HROW5 HRD5 HBL5 HB5
             obtain ⟨⟨s0, s1⟩, ⟨s2, s3, s4⟩, s5, s6⟩ := lawW_boxes HBL6.out
             have hz := lawW_size HBL6.out
             have z0 : w.heap.size < w6.heap.size := (by omega)
             have z1 : w.heap.size + 1 < w6.heap.size := (by omega)
             have z2 : w.heap.size + 1 + 1 < w6.heap.size := (by omega)
             have hgW : g < w6.heap.size := (Array.getElem?_eq_some_iff.1 HROW6.out).1
             obtain ⟨⟨r0, r1, r2⟩, _⟩ := box_facts HROW6.out))
          | (go_at_call 48; skip; (
             refine (HREM.out _ _ _ _ _ _ _ HRD6.out).mono ?_; rintro e w7 ⟨E0, e0, E1, e1, E2, e2, rfl, hown, hb7⟩
             have HBL7 := Lib.hid (lawW_next HBL6.out hb7)
             have HL7 := Lib.hid hown.rd
             clear s0 s1 s2 s3 s4 s5 s6 hz z0 z1 z2 r0 r1 r2 hgW hown hb7 HROW6 HRD6 HBL6 HREM
             obtain ⟨⟨s0, s1⟩, ⟨s2, s3, s4⟩, s5, s6⟩ := lawW_boxes HBL7.out
             have hz := lawW_size HBL7.out
             have z0 : w.heap.size < w7.heap.size := (by omega)
             have z1 : w.heap.size + 1 < w7.heap.size := (by omega)
             have z2 : w.heap.size + 1 + 1 < w7.heap.size := (by omega)))
          | (go_at_call 50; skip; (
             refine (same_v _ _ _ _ _ _ _ _ _ _ _ _ LE nd _ (HLE.out (by simp)) (HL7.out.below ((Below.refl _ _).alloc (Nat.le_refl _) _)) ((HN.out.below (lawW_below HBL7.out)).below ((Below.refl _ _).alloc (Nat.le_refl _) _))).mono ?_; rintro e w8 ⟨rfl, hb8⟩
             have HROW8 := Lib.hid (one_row hb8)
             have HL8 := Lib.hid (HL7.out.below (below_a hb8))
             have HBL8 := Lib.hid (lawW_next HBL7.out (below_a hb8))
             have hg3 : w7.heap.size < w8.heap.size := (by have := hb8.size; simp at this; omega)
             clear s0 s1 s2 s3 s4 s5 s6 hz z0 z1 z2 hb8 HBL7 HL7
             obtain ⟨⟨s0, s1⟩, ⟨s2, s3, s4⟩, s5, s6⟩ := lawW_boxes HBL8.out
             have hz := lawW_size HBL8.out
             have z0 : w.heap.size < w8.heap.size := (by omega)
             have z1 : w.heap.size + 1 < w8.heap.size := (by omega)
             have z2 : w.heap.size + 1 + 1 < w8.heap.size := (by omega)
             obtain ⟨⟨r0, r1, r2⟩, _⟩ := box_facts HROW8.out))
          | (go_at_call 48; skip; (
             refine (HREM2.out _ _ _ _ _ _ _ HL8.out).mono ?_; rintro e w9 ⟨F0, f0, F1, f1, F2, f2, rfl, hown, hb9⟩
             have HROW9 := Lib.hid ((hb9.block _ hg3).trans HROW8.out)
             have HL9 := Lib.hid (HL8.out.below hb9)
             have HBL9 := Lib.hid (lawW_next HBL8.out hb9)
             have HS9 := Lib.hid hown.rd
             clear s0 s1 s2 s3 s4 s5 s6 hz z0 z1 z2 r0 r1 r2 hg3 hown hb9 HROW8 HL8 HBL8 HREM2
             obtain ⟨⟨r0, r1, r2⟩, _⟩ := box_facts HROW9.out
             have hg3' : w7.heap.size < w9.heap.size := (Array.getElem?_eq_some_iff.1 HROW9.out).1))
          | (go_at_call 48; go_must (
             refine (HREM2.out _ _ _ _ _ _ _ (HL7.out.below ((Below.refl _ _).alloc (Nat.le_refl _) _))).mono ?_; rintro e w9 ⟨F0, f0, F1, f1, F2, f2, rfl, hown, hb9⟩
             have HROW9 := Lib.hid (one_row hb9)
             have HL9 := Lib.hid (HL7.out.below (below_a hb9))
             have HBL9 := Lib.hid (lawW_next HBL7.out (below_a hb9))
             have HS9 := Lib.hid hown.rd
             clear s0 s1 s2 s3 s4 s5 s6 hz z0 z1 z2 hown hb9 HL7 HBL7 HREM2
             obtain ⟨⟨r0, r1, r2⟩, _⟩ := box_facts HROW9.out
             have hg3' : w7.heap.size < w9.heap.size := (Array.getElem?_eq_some_iff.1 HROW9.out).1))
          | (go_at_call 50; go_must (
             refine (same_v _ _ _ _ _ _ _ _ _ _ _ _ LE LE _ rfl (HS9.out.below ((Below.refl _ _).alloc (Nat.le_refl _) _)) (HL9.out.below ((Below.refl _ _).alloc (Nat.le_refl _) _))).mono ?_; rintro e w10 ⟨rfl, hb10⟩
             have HBLA := Lib.hid (lawW_next HBL9.out (below_a hb10))
             clear r0 r1 r2 hb10 HBL9 HL9 HS9))
          | (go_at_call 20; refine (awake_c _).mono ?_; rintro e w11 ⟨rfl, hb11⟩))
        go_ret
        exact ⟨rfl, lawW_below (lawW_next HBLA.out hb11)⟩
    · obtain ⟨e1, e2⟩ := HP.out.bad hE
      have HRD := Lib.hid (HG.out.r)
      have HBL := Lib.hid (HG.out.bl)
      rw [e1] at HRD r0 r1 r2 ⊢
      rw [e2]
      clear HP HG HRM HRM2 e1 e2
      have hE' : (putE pg wd nd p != 0) = true := by simp [hE]
      generalize putE pg wd nd p = E at *
      have hz : noN.pairs.length = 0 ∧ noN.seps.length = 0 ∧ noN.kids.length = 0 := ⟨rfl, rfl, rfl⟩
      go_wp2_with (first
        | (go_at_call 50; refine (same_c C none none none none none cc 0 0 0 0 0 noN _ HRD.out (own_noN _ 0 0).rd).mono ?_; rintro e w7 ⟨rfl, hb7⟩)
        | (go_at_call 20; refine (awake_c _).mono ?_; rintro e w8 ⟨rfl, hb8⟩))
      go_ret
      exact ⟨rfl, lawW_below (lawW_next (lawW_next HBL.out hb7) hb8)⟩

end Go.Proofs.Ytajkoeodabmgeaa
