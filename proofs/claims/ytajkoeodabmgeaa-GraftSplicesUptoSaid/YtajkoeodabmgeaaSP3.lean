import Derived.Test.YtajkoeodabmgeaaSP2
import Derived.Test.YtajkoeodabmgeaaZ15
import Derived.IntWalk
namespace Go.Proofs.Ytajkoeodabmgeaa
open Go.RowKit
set_option maxHeartbeats 4000000
set_option maxRecDepth 100000
attribute [local go_sem] grow_cell grow_frozen grow_size

structure SpX where
  A : Option Addr
  c : Nat
  B : Option Addr
  d : Nat
  g : Nat
abbrev spRow (X : SpX) (SS : List ByteArray) (KK : List KidD) : Array Value := #[.slice none 0 0, .slice X.B SS.length X.d, .slice X.A KK.length X.c]
/-- After 'out := Node{Kids: put(..), Seps: put(..)}'. -/
structure SpG (w : World) (pg wd : Int) (x : VH) (nd : NodeD) (SS : List ByteArray) (KK : List KidD) (X : SpX) (W : World) : Prop where
  bl : Below (w.heap.size + 1 + 1 + 1 + 1) (spW w pg wd x nd) W
  row : W.heap[X.g]? = some (.cells (spRow X SS KK) 29 (0, 0))
  lo : w.heap.size + 1 + 1 + 1 + 1 ≤ X.g
  own : OwN W (w.heap.size + 1 + 1 + 1 + 1) W.heap.size none 0 X.B X.d X.A X.c ⟨[], SS, KK⟩
section
variable {w W W' : World} {pg wd : Int} {x : VH} {nd : NodeD} {SS : List ByteArray} {KK : List KidD} {X : SpX}
theorem SpG.next (h : SpG w pg wd x nd SS KK X W) (hb : Below W.heap.size W W') : SpG w pg wd x nd SS KK X W' :=
  ⟨sp_next h.bl hb, (hb.block _ (Array.getElem?_eq_some_iff.1 h.row).1).trans h.row, h.lo, (OwN.below h.own hb).top⟩
theorem SpG.facts (h : SpG w pg wd x nd SS KK X W) :
    (W.cell? ⟨X.g, 0, none⟩ = some (.slice none 0 0) ∧ W.cell? ⟨X.g, 1, none⟩ = some (.slice X.B SS.length X.d) ∧ W.cell? ⟨X.g, 2, none⟩ = some (.slice X.A KK.length X.c)) ∧ X.g < W.heap.size :=
  ⟨⟨cell_of_row _ _ 0 _ _ _ h.row, cell_of_row _ _ 1 _ _ _ h.row, cell_of_row _ _ 2 _ _ _ h.row⟩, (Array.getElem?_eq_some_iff.1 h.row).1⟩
theorem spG_store {old : Array Value} (A B : Option Addr) (c d g : Nat) (hb : Below (w.heap.size + 1 + 1 + 1 + 1) (spW w pg wd x nd) W) (hrow : W.heap[g]? = some (.cells old 29 (0, 0))) (hlo : w.heap.size + 1 + 1 + 1 + 1 ≤ g)
    {b1 b2 : Nat} (hk : W.ownsRow b1 85 33 (.slice A KK.length c) KK.length (kcells KK)) (hs : W.ownsRow b2 9 1 (.slice B SS.length d) SS.length (scells SS)) (h1 : w.heap.size + 1 + 1 + 1 + 1 ≤ b1) (h2 : w.heap.size + 1 + 1 + 1 + 1 ≤ b2)
    (hkl : KK.length * 36 ≤ 140737488355328) (hsl : SS.length * 16 ≤ 140737488355328) (kk : ∀ k ∈ KK, k.sum.length = 32) (sk : ∀ s ∈ SS, s.size ≤ 140737488355328) :
    SpG w pg wd x nd SS KK ⟨A, c, B, d, g⟩ (W.setRow g (spRow ⟨A, c, B, d, g⟩ SS KK)) :=
  ⟨below_setRow hb hlo _, setRow_block _ _ _ _ _ _ hrow, hlo,
    OwN.branch (ownsRow_mono' (own_setRow_other hk hrow (by decide) _) h1) (ownsRow_mono' (own_setRow_other hs hrow (by decide) _) h2) (Nat.le_refl _) hkl hsl kk sk⟩
end

theorem splice_made (pg wd : Int) (x : VH) (nd : NodeD) (KA SA : Option Addr) (kc sc : Nat) (ks : List KidD) (ss : List ByteArray) (i n : Nat) (w : World) (hN : RdN w x.A0 x.c0 x.A1 x.c1 x.A2 x.c2 nd) (hr : right pg wd = true) (hb : branchB pg wd nd = true)
    (hK : Rd w 33 KA ks.length (kcells ks)) (hS : Rd w 1 SA ss.length (scells ss)) (kk : ∀ k ∈ ks, k.sum.length = 32) (sk : ∀ s ∈ ss, s.size ≤ 140737488355328) (hkl : (nd.kids.length + ks.length) * 36 ≤ 140737488355328) (hsl : (nd.seps.length + ss.length) * 16 ≤ 140737488355328)
    (h1 : i + (n + 1) ≤ nd.kids.length) (h3 : ss.length + 1 = ks.length) (h4 : 2 + (n + 1) ≤ nd.kids.length + ks.length)
    (SS : List ByteArray) (hSS : nd.seps.take i ++ ss ++ nd.seps.drop (i + n) = SS) (KK : List KidD) (hKK : nd.kids.take i ++ ks ++ nd.kids.drop (i + (n + 1)) = KK) (E : Int) (hE : checkE pg wd ⟨[], SS, KK⟩ = E) :
    Calls Try.prog 46 #[vF pg wd, vN x.A0 x.c0 x.A1 x.c1 x.A2 x.c2 nd, .int .i64 i, .int .i64 ((n : Int) + 1), .slice KA ks.length kc, .slice SA ss.length sc] w fun e w' => SplicePost (if E = 0 then 0 else 81) (if E = 0 then ⟨[], SS, KK⟩ else noN) w e w' := by
  obtain ⟨l1, l2, l3⟩ := branch_len hb
  have HR := Lib.hid hr
  have HBR := Lib.hid hb
  have HN := Lib.hid hN
  have HKR := Lib.hid hK
  have HSR := Lib.hid hS
  have HE := Lib.hid hE
  have hwn : IntKind.i64.wrap (n : Int) = n := IntWalk.i64_in _ (by have := hN.hk; omega)
  have HPK := Lib.hid (fun cur h h' => putK_at x.A2 KA x.c2 kc nd.kids ks cur h h' hN.hck hkl i (n + 1) i ((n : Int) + 1) rfl (by omega) h1 hN.kk KK hKK)
  have HPS := Lib.hid (fun cur h h' => putS_at x.A1 SA x.c1 sc nd.seps ss cur h h' hN.hcs hsl i n i (IntKind.i64.wrap (n : Int)) rfl hwn (by omega) SS hSS)
  have hlK : KK.length * 36 ≤ 140737488355328 := Nat.le_trans (Nat.mul_le_mul_right _ (show KK.length ≤ nd.kids.length + ks.length by rw [← hKK]; simp; omega)) hkl
  have hlS : SS.length * 16 ≤ 140737488355328 := Nat.le_trans (Nat.mul_le_mul_right _ (show SS.length ≤ nd.seps.length + ss.length by rw [← hSS]; simp; omega)) hsl
  have hkK : ∀ k ∈ KK, k.sum.length = 32 := fun k hk => by
    rw [← hKK] at hk
    rcases List.mem_append.1 hk with hk | hk
    · rcases List.mem_append.1 hk with hk | hk
      · exact hN.kk k (List.mem_of_mem_take hk)
      · exact kk k hk
    · exact hN.kk k (List.mem_of_mem_drop hk)
  have hsK : ∀ k ∈ SS, k.size ≤ 140737488355328 := fun k hk => by
    rw [← hSS] at hk
    rcases List.mem_append.1 hk with hk | hk
    · rcases List.mem_append.1 hk with hk | hk
      · exact hN.sk k (List.mem_of_mem_take hk)
      · exact sk k hk
    · exact hN.sk k (List.mem_of_mem_drop hk)
  have HST := Lib.hid (fun (W : World) (old : Array Value) A B c d g hb hrow hlo (b1 b2 : Nat) hk hs h1 h2 => spG_store (w := w) (W := W) (pg := pg) (wd := wd) (x := x) (nd := nd) (SS := SS) (KK := KK) (old := old) A B c d g hb hrow hlo (b1 := b1) (b2 := b2) hk hs h1 h2 hlK hlS hkK hsK)
  have hkb := hN.hk
  have g0 : 0 ≤ (i : Int) := by omega
  have g1 : 1 ≤ (n : Int) + 1 := by omega
  have g2 : (i : Int) ≤ (nd.kids.length : Int) := by omega
  have g3 : (n : Int) + 1 ≤ (nd.kids.length : Int) - i := by omega
  have d0 : decide ((i : Int) < 0) = false := decide_eq_false (by omega)
  have d1 : decide ((n : Int) + 1 < 1) = false := decide_eq_false (by omega)
  have d2 : decide (nd.kids.length < i) = false := decide_eq_false (by omega)
  have d3 : decide ((nd.kids.length : Int) - i < (n : Int) + 1) = false := decide_eq_false (by omega)
  have b0 : ((ks.length : Int) == 0) = false := by rw [beq_eq_false_iff_ne]; omega
  have b1 : (ks.length == 0) = false := by rw [beq_eq_false_iff_ne]; omega
  have b2 : ((ss.length : Int) != (ks.length : Int) - 1) = false := by simp; omega
  have g6 : 2 ≤ (nd.kids.length : Int) - ((n : Int) + 1) + ks.length := by omega
  have g7 : (ks.length : Int) ≤ 5000000000000 := by omega
  have g8 : 1 ≤ (ks.length : Int) := by omega
  clear hwn hr hb hN hK hS kk sk hkl hsl h1 h3 h4 l1 l2 l3 hE hSS hKK hlK hlS hkK hsK
  obtain ⟨F, hF⟩ : ∃ F : Int, (if E = 0 then 0 else 81) = F := ⟨_, rfl⟩
  obtain ⟨R, hRR⟩ : ∃ R : NodeD, (if E = 0 then ⟨[], SS, KK⟩ else noN) = R := ⟨_, rfl⟩
  rw [hF, hRR]
  have HFE := Lib.hid hF
  have HRE := Lib.hid hRR
  clear hF hRR
  go_enter Try.func46, Try.ntmps46
  go_wp2_with (first
    | (go_at_call 61; refine (frame_v pg wd _ _ HR.out).mono ?_; rintro e w1 ⟨rfl, hb⟩; have hB1 := sp_first hb; clear hb; obtain ⟨⟨q0, q1⟩, ⟨q2, q3, q4⟩, ⟨q5, q6, q7, q8⟩⟩ := sp_boxes hB1; have HB := Lib.hid hB1; clear hB1)
    | (go_at_call 84; refine (branch_v pg wd _ _ _ _ _ _ nd _ (HN.out.below (sp_below HB.out)) _ HBR.out).mono ?_; rintro e w2 ⟨rfl, hb⟩; have hB2 := sp_next HB.out hb; clear hb HB q0 q1 q2 q3 q4 q5 q6 q7 q8; obtain ⟨⟨q0, q1⟩, ⟨q2, q3, q4⟩, ⟨q5, q6, q7, q8⟩⟩ := sp_boxes hB2; have HB := Lib.hid hB2; clear hB2))
  refine region_mid (α := SpX) (fun X a => (((((((((((((((a.put (some 76) (.pointer (some ⟨w.heap.size + 1, 2, none⟩))).put (some 77) (.slice x.A2 nd.kids.length x.c2)).put (some 78) (.int .i64 i)).put (some 79) (.int .i64 ((n : Int) + 1))).put (some 80) (.slice KA ks.length kc)).put (some 81) (.slice X.A KK.length X.c)).put (some 82) (.pointer (some ⟨w.heap.size + 1, 1, none⟩))).put (some 83) (.slice x.A1 nd.seps.length x.c1)).put (some 84) (.int .i64 i)).put (some 85) (.int .i64 ((n : Int) + 1))).put (some 86) (.int .i64 (IntKind.i64.wrap n))).put (some 87) (.slice SA ss.length sc)).put (some 88) (.slice X.B SS.length X.d)).put (some 89) (.agg (spRow X SS KK))).put (some 15) (.pointer (some ⟨X.g, 0, none⟩)))) (fun X W => SpG w pg wd x nd SS KK X W) ?region ?rest
  case region =>
    have hS1 := HB.out
    have HF := Lib.hid (fun W (h : Below (w.heap.size + 1 + 1 + 1 + 1) (spW w pg wd x nd) W) => sp_boxes h)
    clear q0 q1 q2 q3 q4 q5 q6 q7 q8 HB
    refine wp_region_tree (S := Below (w.heap.size + 1 + 1 + 1 + 1) (spW w pg wd x nd))
      (.take 0 (.take 1 (.take 2 (.take 3 (.take 4 (.take 6 (.take 7 (.take 8 (.take 9 (.take 10 (.take 11 (.two 5 14 (.two 12 14 (.take 13 (.run 14 (.run 15 (.done)))) (.run 12 (.take 13 (.run 15 (.done))))) (.run 5 (.run 12 (.take 13 (.run 15 (.done)))))))))))))))))
      (by kernel_rfl) (by kernel_rfl) (by kernel_rfl) (by rintro c a d v W ⟨X, h, _⟩; cases h) hS1.drew ?_
    repeat (apply tree_take; (exact rfl); rfl; (intro W hW; obtain ⟨⟨q0, q1⟩, ⟨q2, q3, q4⟩, ⟨q5, q6, q7, q8⟩⟩ := HF.out W hW; go_simp; (try with_reducible rfl)); simp only [Act.put, List.setIfInBounds_toArray, List.set_cons_zero, List.set_cons_succ])
    have hS1 := hS1.drew
    have hlo1 := sp_size hS1
    generalize w2.drew = W1 at *
    refine tree_two ?_ ?_
    ·
      apply tree_run; (exact rfl); rfl; intro K hK; go_simp
      refine (HPK.out _ ((HN.out.kids).below (sp_below hS1)) (HKR.out.below (sp_below hS1))).mono ?_
      rintro e W2 ⟨⟨A, c, rfl, hok⟩, hbk⟩
      have HOK := Lib.hid hok
      clear hok
      have hS2 := sp_next hS1 hbk
      refine hK.out _ _ hS2 (fun _ => ?_)
      clear hK K
      try simp only [Act.put, List.setIfInBounds_toArray, List.set_cons_zero, List.set_cons_succ]
      refine tree_two ?_ ?_
      ·
        apply tree_run; (exact rfl); rfl; intro K hK; go_simp
        refine (HPS.out _ ((HN.out.seps).below (sp_below hS2)) (HSR.out.below (sp_below hS2))).mono ?_
        rintro e W3 ⟨⟨B, d, rfl, hos⟩, hbs⟩
        have HOS := Lib.hid hos
        clear hos
        have hS3 := sp_next hS2 hbs
        refine hK.out _ _ hS3 (fun _ => ?_)
        clear hK K
        try simp only [Act.put, List.setIfInBounds_toArray, List.set_cons_zero, List.set_cons_succ]
        repeat (apply tree_take; (exact rfl); rfl; (intro W hW; obtain ⟨⟨q0, q1⟩, ⟨q2, q3, q4⟩, ⟨q5, q6, q7, q8⟩⟩ := HF.out W hW; go_simp; (try with_reducible rfl)); simp only [Act.put, List.setIfInBounds_toArray, List.set_cons_zero, List.set_cons_succ])
        apply tree_run; (exact rfl); rfl; intro K hK; go_simp
        have hS4 := hS3.alloc (sp_size hS3) (.cells zero3 29)
        refine hK.out _ _ hS4 (fun _ => ?_)
        clear hK K
        try simp only [Act.put, List.setIfInBounds_toArray, List.set_cons_zero, List.set_cons_succ]
        have hrow := heap_alloc_new W3 (.cells zero3 29)
        have hG := HST.out _ _ A B c d (W3.heap.size) hS4 hrow (sp_size hS3) _ _ (own_below (own_below HOK.out hbs) ((Below.refl _ _).alloc (Nat.le_refl _) _)) (own_below HOS.out ((Below.refl _ _).alloc (Nat.le_refl _) _)) hlo1 (sp_size hS2)
        apply tree_run; (exact rfl); rfl; intro K hK
        refine wp_store_row 29 (.tmp 15) (.tmp 89) rfl (W3.heap.size) (spRow ⟨A, c, B, d, W3.heap.size⟩ SS KK) rfl rfl 29 zero3 hrow info29' rfl (sl3_one _ _ _ _ _ _ _ _ _) ?_
        refine hK.out _ _ hG.bl (fun _ => ?_)
        clear hK K
        try simp only [Act.put]
        exact tree_done ⟨⟨A, c, B, d, W3.heap.size⟩, rfl, rfl, hG⟩
      ·
        apply tree_run; (exact rfl); rfl; intro K hK; go_simp
        have hS3 := hS2.alloc (sp_size hS2) (.cells zero3 29)
        refine hK.out _ _ hS3 (fun _ => ?_)
        clear hK K
        try simp only [Act.put, List.setIfInBounds_toArray, List.set_cons_zero, List.set_cons_succ]
        apply tree_run; (exact rfl); rfl; intro K hK; go_simp
        refine (HPS.out _ ((HN.out.seps).below (sp_below hS3)) (HSR.out.below (sp_below hS3))).mono ?_
        rintro e W3 ⟨⟨B, d, rfl, hos⟩, hbs⟩
        have HOS := Lib.hid hos
        clear hos
        have hS4 := sp_next hS3 hbs
        refine hK.out _ _ hS4 (fun _ => ?_)
        clear hK K
        try simp only [Act.put, List.setIfInBounds_toArray, List.set_cons_zero, List.set_cons_succ]
        repeat (apply tree_take; (exact rfl); rfl; (intro W hW; obtain ⟨⟨q0, q1⟩, ⟨q2, q3, q4⟩, ⟨q5, q6, q7, q8⟩⟩ := HF.out W hW; go_simp; (try with_reducible rfl)); simp only [Act.put, List.setIfInBounds_toArray, List.set_cons_zero, List.set_cons_succ])
        have hrow := (hbs.block W2.heap.size (by simp)).trans (heap_alloc_new W2 (.cells zero3 29))
        have hG := HST.out _ _ A B c d (W2.heap.size) hS4 hrow (sp_size hS2) _ _ (own_below (own_below HOK.out ((Below.refl _ _).alloc (Nat.le_refl _) _)) hbs) HOS.out hlo1 (sp_size hS3)
        apply tree_run; (exact rfl); rfl; intro K hK
        refine wp_store_row 29 (.tmp 15) (.tmp 89) rfl (W2.heap.size) (spRow ⟨A, c, B, d, W2.heap.size⟩ SS KK) rfl rfl 29 zero3 hrow info29' rfl (sl3_one _ _ _ _ _ _ _ _ _) ?_
        refine hK.out _ _ hG.bl (fun _ => ?_)
        clear hK K
        try simp only [Act.put]
        exact tree_done ⟨⟨A, c, B, d, W2.heap.size⟩, rfl, rfl, hG⟩
    ·
      apply tree_run; (exact rfl); rfl; intro K hK; go_simp
      have hS2 := hS1.alloc (sp_size hS1) (.cells zero3 29)
      refine hK.out _ _ hS2 (fun _ => ?_)
      clear hK K
      try simp only [Act.put, List.setIfInBounds_toArray, List.set_cons_zero, List.set_cons_succ]
      apply tree_run; (exact rfl); rfl; intro K hK; go_simp
      refine (HPK.out _ ((HN.out.kids).below (sp_below hS2)) (HKR.out.below (sp_below hS2))).mono ?_
      rintro e W2 ⟨⟨A, c, rfl, hok⟩, hbk⟩
      have HOK := Lib.hid hok
      clear hok
      have hS3 := sp_next hS2 hbk
      refine hK.out _ _ hS3 (fun _ => ?_)
      clear hK K
      try simp only [Act.put, List.setIfInBounds_toArray, List.set_cons_zero, List.set_cons_succ]
      apply tree_run; (exact rfl); rfl; intro K hK; go_simp
      refine (HPS.out _ ((HN.out.seps).below (sp_below hS3)) (HSR.out.below (sp_below hS3))).mono ?_
      rintro e W3 ⟨⟨B, d, rfl, hos⟩, hbs⟩
      have HOS := Lib.hid hos
      clear hos
      have hS4 := sp_next hS3 hbs
      refine hK.out _ _ hS4 (fun _ => ?_)
      clear hK K
      try simp only [Act.put, List.setIfInBounds_toArray, List.set_cons_zero, List.set_cons_succ]
      repeat (apply tree_take; (exact rfl); rfl; (intro W hW; obtain ⟨⟨q0, q1⟩, ⟨q2, q3, q4⟩, ⟨q5, q6, q7, q8⟩⟩ := HF.out W hW; go_simp; (try with_reducible rfl)); simp only [Act.put, List.setIfInBounds_toArray, List.set_cons_zero, List.set_cons_succ])
      have hrow := (hbs.block W1.heap.size (by have := hbk.size; simp at this; omega)).trans ((hbk.block W1.heap.size (by simp)).trans (heap_alloc_new W1 (.cells zero3 29)))
      have hG := HST.out _ _ A B c d (W1.heap.size) hS4 hrow hlo1 _ _ (own_below HOK.out hbs) HOS.out (sp_size hS2) (sp_size hS3)
      apply tree_run; (exact rfl); rfl; intro K hK
      refine wp_store_row 29 (.tmp 15) (.tmp 89) rfl (W1.heap.size) (spRow ⟨A, c, B, d, W1.heap.size⟩ SS KK) rfl rfl 29 zero3 hrow info29' rfl (sl3_one _ _ _ _ _ _ _ _ _) ?_
      refine hK.out _ _ hG.bl (fun _ => ?_)
      clear hK K
      try simp only [Act.put]
      exact tree_done ⟨⟨A, c, B, d, W1.heap.size⟩, rfl, rfl, hG⟩
  case rest =>
  rintro ⟨A, c, B, d, g⟩ W hG
  have HG := Lib.hid hG
  clear hG q0 q1 q2 q3 q4 q5 q6 q7 q8 HB
  simp only [Act.put, List.setIfInBounds_toArray, List.set_cons_zero, List.set_cons_succ]
  obtain ⟨⟨q0, q1⟩, ⟨q2, q3, q4⟩, ⟨q5, q6, q7, q8⟩⟩ := sp_boxes HG.out.bl
  obtain ⟨⟨r0, r1, r2⟩, r3⟩ := HG.out.facts
  dsimp only at r0 r1 r2 r3
  have HZ := Lib.hid (sp_zero HG.out.bl)
  have HZR := Lib.hid (sp_row HG.out.bl)
  by_cases hc : E = 0
  · subst hc
    obtain rfl : F = 0 := by rw [← HFE.out, if_pos rfl]
    obtain rfl : R = ⟨[], SS, KK⟩ := by rw [← HRE.out, if_pos rfl]
    clear HFE HRE
    go_wp2_with (first
      | (go_at_call 74; go_must (refine (check_v pg wd none B A 0 d c ⟨[], SS, KK⟩ _ HG.out.own.rd _ HE.out).mono ?_; rintro e w3 ⟨rfl, hb⟩; have HG2 := Lib.hid (HG.out.next hb); clear hb HG HZ HZR q0 q1 q2 q3 q4 q5 q6 q7 q8 r0 r1 r2 r3; obtain ⟨⟨q0, q1⟩, ⟨q2, q3, q4⟩, ⟨q5, q6, q7, q8⟩⟩ := sp_boxes HG2.out.bl; obtain ⟨⟨r0, r1, r2⟩, r3⟩ := HG2.out.facts; dsimp only at r0 r1 r2 r3; have hg := sp_row HG2.out.bl; have HRW := Lib.hid HG2.out.row))
      | (refine wpList_load_row rfl 29 (.tmp 15) rfl g rfl 29 (spRow ⟨A, c, B, d, g⟩ SS KK) (0, 0) _ HRW.out Try.underlying29 rfl info29' ?_)
      | (refine wpList_store_row rfl 29 (.tmp 12) (.tmp 95) rfl (w.heap.size + 1 + 1) (spRow ⟨A, c, B, d, g⟩ SS KK) rfl rfl 29 _ hg info29' rfl (sl3_one _ _ _ _ _ _ _ _ _) ?_))
    refine bodyPost_ret (results_ct rfl _ _ (w.heap.size + 1 + 1) 29 (spRow ⟨A, c, B, d, g⟩ SS KK) (0, 0) _ rfl (setRow_block _ _ _ _ _ _ hg) Try.underlying29 rfl info29') rfl ?_
    exact ⟨⟨none, 0, B, d, A, c⟩, rfl, (HG2.out.own.setRow' _ _ (.inl (by omega))).wide (by omega) (by simp [World.setRow]), below_setRow (sp_below HG2.out.bl) (by omega) _⟩
  · have hcc : (E != 0) = true := by simp [hc]
    obtain rfl : F = 81 := by rw [← HFE.out, if_neg hc]
    obtain rfl : R = noN := by rw [← HRE.out, if_neg hc]
    clear hc HFE HRE
    go_wp2_with (first
      | (go_at_call 74; go_must (refine (check_v pg wd none B A 0 d c ⟨[], SS, KK⟩ _ HG.out.own.rd _ HE.out).mono ?_; rintro e w3 ⟨rfl, hb⟩; have HG2 := Lib.hid (HG.out.next hb); clear hb HG HZ HZR q0 q1 q2 q3 q4 q5 q6 q7 q8 r0 r1 r2 r3; obtain ⟨⟨q0, q1⟩, ⟨q2, q3, q4⟩, ⟨q5, q6, q7, q8⟩⟩ := sp_boxes HG2.out.bl; have hg := sp_row HG2.out.bl; have HZ := Lib.hid (sp_zero HG2.out.bl)))
      | (refine wpList_load_row rfl 29 (.tmp 14) rfl (w.heap.size + 1 + 1 + 1) rfl 29 zero3 (0, 0) _ HZ.out Try.underlying29 rfl info29' ?_)
      | (refine wpList_store_row rfl 29 (.tmp 12) (.tmp 94) rfl (w.heap.size + 1 + 1) zero3 rfl rfl 29 _ hg info29' rfl (sl3_one _ _ _ _ _ _ _ _ _) ?_))
    refine bodyPost_ret (results_ct rfl _ _ (w.heap.size + 1 + 1) 29 zero3 (0, 0) _ rfl (setRow_block _ _ _ _ _ _ hg) Try.underlying29 rfl info29') rfl ?_
    exact splice_err w _ 81 (below_setRow (sp_below HG2.out.bl) (show w.heap.size ≤ w.heap.size + 1 + 1 by omega) zero3)

theorem splice_c (pg wd a m : Int) (x : VH) (nd : NodeD) (KA SA : Option Addr) (kc sc : Nat) (ks : List KidD) (ss : List ByteArray) (w : World) (hN : RdN w x.A0 x.c0 x.A1 x.c1 x.A2 x.c2 nd)
    (hK : Rd w 33 KA ks.length (kcells ks)) (hS : Rd w 1 SA ss.length (scells ss)) (kk : ∀ k ∈ ks, k.sum.length = 32) (sk : ∀ s ∈ ss, s.size ≤ 140737488355328) (hkl : (nd.kids.length + ks.length) * 36 ≤ 140737488355328) (hsl : (nd.seps.length + ss.length) * 16 ≤ 140737488355328) :
    Calls Try.prog 46 #[vF pg wd, vN x.A0 x.c0 x.A1 x.c1 x.A2 x.c2 nd, .int .i64 a, .int .i64 m, .slice KA ks.length kc, .slice SA ss.length sc] w fun e w' => SplicePost (spliceE pg wd nd a m ks ss) (spliceR pg wd nd a m ks ss) w e w' := by
  unfold spliceR spliceE
  cases hr : right pg wd with
  | false =>
    simp only [Bool.false_eq_true, if_false]
    exact splice_wrong pg wd a m x nd KA SA _ kc _ sc w hr
  | true =>
    cases hb : branchB pg wd nd with
    | false =>
      simp only [Bool.false_eq_true, if_false, if_true]
      exact splice_unshaped pg wd a m x nd KA SA _ kc _ sc w hN hr hb
    | true =>
      by_cases h : argBad nd.kids.length a m ks.length ss.length
      · simp only [if_true, if_pos h]
        exact splice_bad pg wd a m x nd KA SA _ kc _ sc w hN hr hb (by omega) h
      · obtain ⟨i, n, rfl, rfl, h1, h2, h3, h4⟩ := argBad_not h
        simp only [if_true, if_neg h, splice_parts]
        have := splice_made pg wd x nd KA SA kc sc ks ss i n w hN hr hb hK hS kk sk hkl hsl h1 h3 h4 _ rfl _ rfl _ rfl
        by_cases hc : checkE pg wd ⟨[], nd.seps.take i ++ ss ++ nd.seps.drop (i + n), nd.kids.take i ++ ks ++ nd.kids.drop (i + (n + 1))⟩ = 0
        · rw [if_pos hc, if_pos hc] at this
          rw [if_pos hc, if_pos rfl]
          exact this
        · rw [if_neg hc, if_neg hc] at this
          rw [if_neg hc, if_neg (by decide)]
          exact this

end Go.Proofs.Ytajkoeodabmgeaa
