import Derived.Test.YtajkoeodabmgeaaSP4
import Derived.Test.YtajkoeodabmgeaaZ15
import Derived.Test.YtajkoeodabmgeaaY7
import Derived.IntWalk
namespace Go.Proofs.Ytajkoeodabmgeaa
open Go.RowKit
set_option maxHeartbeats 4000000
set_option maxRecDepth 100000
attribute [local go_sem] grow_cell grow_frozen grow_size

theorem refSplice_made (pg wd : Int) (x : VH) (nd : NodeD) (KA SA : Option Addr) (kc sc : Nat) (ks : List KidD) (ss : List ByteArray) (i n : Nat) (w : World) (hN : RdN w x.A0 x.c0 x.A1 x.c1 x.A2 x.c2 nd) (hr : right pg wd = true) (hb : branchB pg wd nd = true)
    (hK : Rd w 33 KA ks.length (kcells ks)) (hS : Rd w 1 SA ss.length (scells ss)) (kk : ∀ k ∈ ks, k.sum.length = 32) (sk : ∀ s ∈ ss, s.size ≤ 140737488355328) (hkl : (nd.kids.length + ks.length) * 36 ≤ 140737488355328) (hsl : (nd.seps.length + ss.length) * 16 ≤ 140737488355328)
    (h1 : i + (n + 1) ≤ nd.kids.length) (h3 : ss.length + 1 = ks.length) (h4 : 2 + (n + 1) ≤ nd.kids.length + ks.length)
    (SS : List ByteArray) (hSS : nd.seps.take i ++ ss ++ nd.seps.drop (i + n) = SS) (KK : List KidD) (hKK : nd.kids.take i ++ ks ++ nd.kids.drop (i + (n + 1)) = KK) (E : Int) (hE : checkE pg wd ⟨[], SS, KK⟩ = E) :
    Calls Try.prog 47 #[vF pg wd, vN x.A0 x.c0 x.A1 x.c1 x.A2 x.c2 nd, .int .i64 i, .int .i64 ((n : Int) + 1), .slice KA ks.length kc, .slice SA ss.length sc] w fun e w' => SplicePost (if E = 0 then 0 else 81) (if E = 0 then ⟨[], SS, KK⟩ else noN) w e w' := by
  obtain ⟨l1, l2, l3⟩ := branch_len hb
  have HR := Lib.hid hr
  have HBR := Lib.hid hb
  have HN := Lib.hid hN
  have HKR := Lib.hid hK
  have HSR := Lib.hid hS
  have HE := Lib.hid hE
  have hlK : KK.length * 36 ≤ 140737488355328 := Nat.le_trans (Nat.mul_le_mul_right _ (show KK.length ≤ nd.kids.length + ks.length by rw [← hKK]; simp; omega)) hkl
  have hlS : SS.length * 16 ≤ 140737488355328 := Nat.le_trans (Nat.mul_le_mul_right _ (show SS.length ≤ nd.seps.length + ss.length by rw [← hSS]; simp; omega)) hsl
  have hkK : ∀ k ∈ KK, k.sum.length = 32 := fun k hk => by
    rw [← hKK] at hk
    rcases List.mem_append.1 hk with hk | hk
    · rcases List.mem_append.1 hk with hk | hk
      · exact hN.kk k (List.mem_of_mem_take hk)
      · exact kk k hk
    · exact hN.kk k (List.mem_of_mem_drop hk)
  have hsK : ∀ k ∈ SS, k.size ≤ 140737488355328 := fun k hk => by
    rw [← hSS] at hk
    rcases List.mem_append.1 hk with hk | hk
    · rcases List.mem_append.1 hk with hk | hk
      · exact hN.sk k (List.mem_of_mem_take hk)
      · exact sk k hk
    · exact hN.sk k (List.mem_of_mem_drop hk)
  have eK : i + ks.length + (nd.kids.length - (i + (n + 1))) = KK.length := by rw [← hKK]; simp; omega
  have eS : i + ss.length + (nd.seps.length - (i + n)) = SS.length := by rw [← hSS]; simp; omega
  have fK : kcells (nd.kids.take i) ++ kcells ks ++ kcells (nd.kids.drop (i + (n + 1))) = kcells KK := by rw [← hKK, kcells_append, kcells_append]
  have fS : scells (nd.seps.take i) ++ scells ss ++ scells (nd.seps.drop (i + n)) = scells SS := by rw [← hSS, scells_append, scells_append]
  have HFIN := Lib.hid (fun (W : World) A B c d base (h : LS (fun _ => False) base W base.heap.size base.heap.size (.slice none 0 0) (.slice B (i + ss.length + (nd.seps.length - (i + n))) d) (.slice A (i + ks.length + (nd.kids.length - (i + (n + 1)))) c) 0 (i + ss.length + (nd.seps.length - (i + n))) (i + ks.length + (nd.kids.length - (i + (n + 1)))) [] (scells (nd.seps.take i) ++ scells ss ++ scells (nd.seps.drop (i + n))) (kcells (nd.kids.take i) ++ kcells ks ++ kcells (nd.kids.drop (i + (n + 1))))) =>
    And.intro (own_of_ls (nd := ⟨[], SS, KK⟩) h rfl eS eK rfl fS fK (by simp) hlS hlK (fun _ h => by cases h) hsK hkK)
      (show W.heap[base.heap.size]? = some (.cells #[.slice none 0 0, .slice B SS.length d, .slice A KK.length c] 29 (0, 0)) by have := h.box; rwa [eS, eK] at this))
  have hkb := hN.hk
  have hsb := hN.hs
  have hck := hN.hck
  have hcs := hN.hcs
  have hw1 : IntKind.i64.wrap ((i : Int) + ((n : Int) + 1)) = ((i + (n + 1) : Nat) : Int) := by rw [IntWalk.i64_in _ (by omega)]; omega
  have hw2 : IntKind.i64.wrap (IntKind.i64.wrap ((i : Int) + ((n : Int) + 1)) - 1) = ((i + n : Nat) : Int) := by rw [hw1, IntWalk.i64_in _ (by omega)]; omega
  obtain ⟨AX, hsl1, hsr1⟩ := slice_from (P := Try.prog) 27 33 elem27 sizeK x.A2 nd.kids.length x.c2 (i + (n + 1)) (IntKind.i64.wrap ((i : Int) + ((n : Int) + 1))) hw1 (by omega) hck
  obtain ⟨AS, hsl2, hsr2⟩ := slice_from (P := Try.prog) 26 1 elem26 sizeS x.A1 nd.seps.length x.c1 (i + n) (IntKind.i64.wrap (IntKind.i64.wrap ((i : Int) + ((n : Int) + 1)) - 1)) hw2 (by omega) hcs
  have HT1 := Lib.hid (fun W (h : Rd W 33 x.A2 nd.kids.length (kcells nd.kids)) => (show Rd W 33 x.A2 i (kcells (nd.kids.take i)) by rw [← kcells_take _ _ hN.kk]; exact h.take (by omega)))
  have HT2 := Lib.hid (fun W (h : Rd W 33 x.A2 nd.kids.length (kcells nd.kids)) => (show Rd W 33 AX (nd.kids.length - (i + (n + 1))) (kcells (nd.kids.drop (i + (n + 1)))) by rw [← kcells_drop _ _ hN.kk]; exact hsr1 W _ h))
  have HT3 := Lib.hid (fun W (h : Rd W 1 x.A1 nd.seps.length (scells nd.seps)) => (show Rd W 1 x.A1 i (scells (nd.seps.take i)) by rw [← scells_take]; exact h.take (by omega)))
  have HT4 := Lib.hid (fun W (h : Rd W 1 x.A1 nd.seps.length (scells nd.seps)) => (show Rd W 1 AS (nd.seps.length - (i + n)) (scells (nd.seps.drop (i + n))) by rw [← scells_drop]; exact hsr2 W _ h))
  have HP1 : Hid ((0 + i) * 36 ≤ 140737488355328) := Lib.hid (by omega)
  have HP2 : Hid ((i + ks.length) * 36 ≤ 140737488355328) := Lib.hid (by omega)
  have HP3 : Hid ((i + ks.length + (nd.kids.length - (i + (n + 1)))) * 36 ≤ 140737488355328) := Lib.hid (by omega)
  have HP4 : Hid ((0 + i) * 16 ≤ 140737488355328) := Lib.hid (by omega)
  have HP5 : Hid ((i + ss.length) * 16 ≤ 140737488355328) := Lib.hid (by omega)
  have HP6 : Hid ((i + ss.length + (nd.seps.length - (i + n))) * 16 ≤ 140737488355328) := Lib.hid (by omega)
  have g0 : 0 ≤ (i : Int) := by omega
  have g1 : 1 ≤ (n : Int) + 1 := by omega
  have g2 : (i : Int) ≤ (nd.kids.length : Int) := by omega
  have g3 : (n : Int) + 1 ≤ (nd.kids.length : Int) - i := by omega
  have d0 : decide ((i : Int) < 0) = false := decide_eq_false (by omega)
  have d1 : decide ((n : Int) + 1 < 1) = false := decide_eq_false (by omega)
  have d2 : decide (nd.kids.length < i) = false := decide_eq_false (by omega)
  have d3 : decide ((nd.kids.length : Int) - i < (n : Int) + 1) = false := decide_eq_false (by omega)
  have b0 : ((ks.length : Int) == 0) = false := by rw [beq_eq_false_iff_ne]; omega
  have b2 : ((ss.length : Int) != (ks.length : Int) - 1) = false := by simp; omega
  have g6 : 2 ≤ (nd.kids.length : Int) - ((n : Int) + 1) + ks.length := by omega
  have g7 : (ks.length : Int) ≤ 5000000000000 := by omega
  have g8 : 1 ≤ (ks.length : Int) := by omega
  have g9 : (i : Int) ≤ (x.c2 : Int) := by omega
  have g10 : (i : Int) ≤ (x.c1 : Int) := by omega
  clear hr hb hN hK hS kk sk hkl hsl h1 h3 h4 l1 l2 l3 hE hSS hKK hlK hlS hkK hsK eK eS fK fS hsr1 hsr2 hck hcs hw1 hw2
  obtain ⟨j0', hj, hy0, hy1, hy2⟩ := info_parts info9
  obtain ⟨k0, hik, hx0, hx1, hx2⟩ := info_parts info85'
  have HX0 := Lib.hid hx0
  clear hx0
  obtain ⟨F, hF⟩ : ∃ F : Int, (if E = 0 then 0 else 81) = F := ⟨_, rfl⟩
  obtain ⟨R, hRR⟩ : ∃ R : NodeD, (if E = 0 then ⟨[], SS, KK⟩ else noN) = R := ⟨_, rfl⟩
  rw [hF, hRR]
  have HFE := Lib.hid hF
  have HRE := Lib.hid hRR
  clear hF hRR
  go_enter Try.func47, Try.ntmps47
  go_wp2_with (first
    | (go_at_call 66; refine (refRight_v pg wd _ _ HR.out).mono ?_; rintro e w1 ⟨rfl, hb⟩; have hB1 := rs_first hb; clear hb; obtain ⟨⟨q0, q1⟩, ⟨q2, q3, q4⟩, ⟨q5, q6, q7⟩⟩ := rs_boxes hB1; have HB := Lib.hid hB1; clear hB1)
    | (go_at_call 87; refine (refBranchK_v pg wd x nd _ (HN.out.below (rs_below HB.out)) _ HBR.out).mono ?_; rintro e w2 ⟨rfl, hb⟩; have hB2 := rs_next HB.out hb; clear hb HB q0 q1 q2 q3 q4 q5 q6 q7; obtain ⟨⟨q0, q1⟩, ⟨q2, q3, q4⟩, ⟨q5, q6, q7⟩⟩ := rs_boxes hB2; have HB := Lib.hid hB2; clear hB2))
  have HB2 := HB
  have hz2 := rs_size HB2.out
  have HF := Lib.hid (fun W (h : Below (w.heap.size + 1 + 1 + 1) (rsW w pg wd x nd) W) => rs_boxes h)
  have HA0 := Lib.hid (ls_start w2)
  have HX0' := Lib.hid (HB.out.alloc (rs_size HB.out) (.cells zero3 29))
  clear HB HR HBR q0 q1 q2 q3 q4 q5 q6 q7 d0 d1 d2 d3 b0 b2 g6
  obtain ⟨W0, hW0⟩ : ∃ W0, W0 = w2.alloc (.cells zero3 29) := ⟨_, rfl⟩
  rw [← hW0] at HA0 HX0' ⊢
  clear hW0
  refine wp_region_sched (S := Below (w.heap.size + 1 + 1 + 1) (rsW w pg wd x nd)) [(0, true), (2, true), (3, true), (4, true), (5, true), (1, false), (6, false), (7, true), (8, false)] (by kernel_rfl) (by kernel_rfl) (by kernel_rfl) (fun _ _ d _ _ h => by cases d <;> exact h) HX0'.out.drew ?_
  repeat (apply sched_take; (exact rfl); rfl; (intro W hW; obtain ⟨⟨q0, q1⟩, ⟨q2, q3, q4⟩, ⟨q5, q6, q7⟩⟩ := HF.out W hW; go_simp; (try with_reducible rfl)); simp only [Act.put, List.setIfInBounds_toArray, List.set_cons_zero, List.set_cons_succ])
  obtain ⟨⟨p0, p1, p2⟩, _⟩ := box_facts HA0.out.box
  apply sched_run; (exact rfl); rfl; intro K hK; go_simp
  refine hK.out _ _ HX0'.out.drew (fun _ => ?_)
  clear hK K p0 p1 p2
  try simp only [Act.put, List.setIfInBounds_toArray, List.set_cons_zero, List.set_cons_succ]
  apply sched_run; (exact rfl); rfl; intro K hK
  have HD := Lib.hid (HA0.out.below (Below.refl _ _).drew)
  refine wp_append_rd (.tmp 72) (.tmp 76) 27 rfl w2.heap.size 85 Try.underlying27 hik HX0.out hx1 hx2 (by kernel_rfl) (by decide) rfl HD.out.r2 rfl (HT1.out _ ((HN.out.below (rs_below HX0'.out.drew)).kids)) (kc1 _) HP1.out (by decide) HD.out.hb ?_
  intro v V1 hown hg hx
  rw [Nat.zero_add, List.nil_append] at hown
  obtain ⟨E1, f1, rfl, _, _⟩ := own_rd hown
  have HN1 := Lib.hid (HD.out.app2 hown hg hx.1)
  have hBg := HX0'.out.drew.grown hg (rs_size HX0'.out.drew) (fun k e => Nat.le_trans hz2 (HD.out.r2.lt k e).1)
  have hbx := box_facts (HD.out.mid2 hg)
  refine hK.out _ _ hBg (fun _ => ?_)
  clear hK K
  try simp only [Act.put, List.setIfInBounds_toArray, List.set_cons_zero, List.set_cons_succ]
  repeat (apply sched_take; (exact rfl); rfl; (intro W hW; obtain ⟨⟨q0, q1⟩, ⟨q2, q3, q4⟩, ⟨q5, q6, q7⟩⟩ := HF.out W hW; go_simp; (try with_reducible rfl)); simp only [Act.put, List.setIfInBounds_toArray, List.set_cons_zero, List.set_cons_succ])
  obtain ⟨⟨p0, p1, p2⟩, p3, p4, p5⟩ := hbx
  apply sched_run; (exact rfl); rfl; intro K hK; go_simp
  have hst := hBg.setCell (p := ⟨w2.heap.size, 2, none⟩) hz2 (.slice E1 (i) f1)
  refine hK.out _ _ hst (fun _ => ?_)
  clear hK K
  refine sched_done ?_
  have HA0n := HN1
  have HX0'n := Lib.hid hst
  clear p0 p1 p2 p3 p4 p5 hown hg hx hBg HD HN1 hst HA0 HX0'
  have HA0 := HA0n
  have HX0' := HX0'n
  clear HA0n HX0'n
  generalize World.setCell V1 ⟨w2.heap.size, 2, none⟩ (.slice E1 (i) f1) = W1 at *
  obtain ⟨⟨p0, p1, p2⟩, p3, p4, p5⟩ := box_facts HA0.out.box
  obtain ⟨⟨q0, q1⟩, ⟨q2, q3, q4⟩, ⟨q5, q6, q7⟩⟩ := rs_boxes HX0'.out
  go_upto_region 10 with (at_builtin; refine wpList_append_rd rfl (.tmp 80) (.tmp 81) 27 rfl w2.heap.size 85 Try.underlying27 hik HX0.out hx1 hx2 (by kernel_rfl) (by decide) rfl HA0.out.r2 rfl (HKR.out.below (rs_below HX0'.out)) (kc1 _) HP2.out (by decide) HA0.out.hb ?_; intro v V2 hown hg hx; obtain ⟨E2, f2, rfl, _, _⟩ := own_rd hown; have HN1 := Lib.hid (HA0.out.app2 hown hg hx.1); have hBg := HX0'.out.grown hg (rs_size HX0'.out) (fun k e => Nat.le_trans hz2 (HA0.out.r2.lt k e).1); clear p0 p1 p2 p3 p4 p5; obtain ⟨⟨p0, p1, p2⟩, p3, p4, p5⟩ := box_facts (HA0.out.mid2 hg))
  have hst := hBg.setCell (p := ⟨w2.heap.size, 2, none⟩) hz2 (.slice E2 (i + ks.length) f2)
  have HA0n := HN1
  have HX0'n := Lib.hid hst
  clear p0 p1 p2 p3 p4 p5 hown hg hx hBg HN1 hst q0 q1 q2 q3 q4 q5 q6 q7 HA0 HX0'
  have HA0 := HA0n
  have HX0' := HX0'n
  clear HA0n HX0'n
  generalize World.setCell V2 ⟨w2.heap.size, 2, none⟩ (.slice E2 (i + ks.length) f2) = W2 at *
  refine wp_region_sched (S := Below (w.heap.size + 1 + 1 + 1) (rsW w pg wd x nd)) [(0, true), (2, true), (3, true), (4, true), (5, true), (6, true), (7, true), (1, false), (8, false), (9, true), (10, false)] (by kernel_rfl) (by kernel_rfl) (by kernel_rfl) (fun _ _ d _ _ h => by cases d <;> exact h) HX0'.out.drew ?_
  repeat (apply sched_take; (exact rfl); rfl; (intro W hW; obtain ⟨⟨q0, q1⟩, ⟨q2, q3, q4⟩, ⟨q5, q6, q7⟩⟩ := HF.out W hW; go_simp; (try with_reducible rfl)); simp only [Act.put, List.setIfInBounds_toArray, List.set_cons_zero, List.set_cons_succ])
  obtain ⟨⟨p0, p1, p2⟩, _⟩ := box_facts HA0.out.box
  apply sched_run; (exact rfl); rfl; intro K hK; go_simp
  refine hK.out _ _ HX0'.out.drew (fun _ => ?_)
  clear hK K p0 p1 p2
  try simp only [Act.put, List.setIfInBounds_toArray, List.set_cons_zero, List.set_cons_succ]
  apply sched_run; (exact rfl); rfl; intro K hK
  have HD := Lib.hid (HA0.out.below (Below.refl _ _).drew)
  refine wp_append_rd (.tmp 85) (.tmp 91) 27 rfl w2.heap.size 85 Try.underlying27 hik HX0.out hx1 hx2 (by kernel_rfl) (by decide) rfl HD.out.r2 rfl (HT2.out _ ((HN.out.below (rs_below HX0'.out.drew)).kids)) (kc1 _) HP3.out (by decide) HD.out.hb ?_
  intro v V3 hown hg hx
  obtain ⟨E3, f3, rfl, _, _⟩ := own_rd hown
  have HN1 := Lib.hid (HD.out.app2 hown hg hx.1)
  have hBg := HX0'.out.drew.grown hg (rs_size HX0'.out.drew) (fun k e => Nat.le_trans hz2 (HD.out.r2.lt k e).1)
  have hbx := box_facts (HD.out.mid2 hg)
  refine hK.out _ _ hBg (fun _ => ?_)
  clear hK K
  try simp only [Act.put, List.setIfInBounds_toArray, List.set_cons_zero, List.set_cons_succ]
  repeat (apply sched_take; (exact rfl); rfl; (intro W hW; obtain ⟨⟨q0, q1⟩, ⟨q2, q3, q4⟩, ⟨q5, q6, q7⟩⟩ := HF.out W hW; go_simp; (try with_reducible rfl)); simp only [Act.put, List.setIfInBounds_toArray, List.set_cons_zero, List.set_cons_succ])
  obtain ⟨⟨p0, p1, p2⟩, p3, p4, p5⟩ := hbx
  apply sched_run; (exact rfl); rfl; intro K hK; go_simp
  have hst := hBg.setCell (p := ⟨w2.heap.size, 2, none⟩) hz2 (.slice E3 (i + ks.length + (nd.kids.length - (i + (n + 1)))) f3)
  refine hK.out _ _ hst (fun _ => ?_)
  clear hK K
  refine sched_done ?_
  have HA0n := HN1
  have HX0'n := Lib.hid hst
  clear p0 p1 p2 p3 p4 p5 hown hg hx hBg HD HN1 hst HA0 HX0'
  have HA0 := HA0n
  have HX0' := HX0'n
  clear HA0n HX0'n
  generalize World.setCell V3 ⟨w2.heap.size, 2, none⟩ (.slice E3 (i + ks.length + (nd.kids.length - (i + (n + 1)))) f3) = W3 at *
  go_upto_region 11 with fail
  refine wp_region_sched (S := Below (w.heap.size + 1 + 1 + 1) (rsW w pg wd x nd)) [(0, true), (2, true), (3, true), (4, true), (5, true), (1, false), (6, false), (7, true), (8, false)] (by kernel_rfl) (by kernel_rfl) (by kernel_rfl) (fun _ _ d _ _ h => by cases d <;> exact h) HX0'.out.drew ?_
  repeat (apply sched_take; (exact rfl); rfl; (intro W hW; obtain ⟨⟨q0, q1⟩, ⟨q2, q3, q4⟩, ⟨q5, q6, q7⟩⟩ := HF.out W hW; go_simp; (try with_reducible rfl)); simp only [Act.put, List.setIfInBounds_toArray, List.set_cons_zero, List.set_cons_succ])
  obtain ⟨⟨p0, p1, p2⟩, _⟩ := box_facts HA0.out.box
  apply sched_run; (exact rfl); rfl; intro K hK; go_simp
  refine hK.out _ _ HX0'.out.drew (fun _ => ?_)
  clear hK K p0 p1 p2
  try simp only [Act.put, List.setIfInBounds_toArray, List.set_cons_zero, List.set_cons_succ]
  apply sched_run; (exact rfl); rfl; intro K hK
  have HD := Lib.hid (HA0.out.below (Below.refl _ _).drew)
  refine wp_append_rd (.tmp 95) (.tmp 99) 26 rfl w2.heap.size 9 Try.underlying26 hj hy0 hy1 hy2 rfl (by decide) rfl HD.out.r1 rfl (HT3.out _ ((HN.out.below (rs_below HX0'.out.drew)).seps)) (sc1 _) HP4.out (by decide) HD.out.hb ?_
  intro v V4 hown hg hx
  rw [Nat.zero_add, List.nil_append] at hown
  obtain ⟨E4, f4, rfl, _, _⟩ := own_rd hown
  have HN1 := Lib.hid (HD.out.app1 hown hg hx.1)
  have hBg := HX0'.out.drew.grown hg (rs_size HX0'.out.drew) (fun k e => Nat.le_trans hz2 (HD.out.r1.lt k e).1)
  have hbx := box_facts (HD.out.mid1 hg)
  refine hK.out _ _ hBg (fun _ => ?_)
  clear hK K
  try simp only [Act.put, List.setIfInBounds_toArray, List.set_cons_zero, List.set_cons_succ]
  repeat (apply sched_take; (exact rfl); rfl; (intro W hW; obtain ⟨⟨q0, q1⟩, ⟨q2, q3, q4⟩, ⟨q5, q6, q7⟩⟩ := HF.out W hW; go_simp; (try with_reducible rfl)); simp only [Act.put, List.setIfInBounds_toArray, List.set_cons_zero, List.set_cons_succ])
  obtain ⟨⟨p0, p1, p2⟩, p3, p4, p5⟩ := hbx
  apply sched_run; (exact rfl); rfl; intro K hK; go_simp
  have hst := hBg.setCell (p := ⟨w2.heap.size, 1, none⟩) hz2 (.slice E4 (i) f4)
  refine hK.out _ _ hst (fun _ => ?_)
  clear hK K
  refine sched_done ?_
  have HA0n := HN1
  have HX0'n := Lib.hid hst
  clear p0 p1 p2 p3 p4 p5 hown hg hx hBg HD HN1 hst HA0 HX0'
  have HA0 := HA0n
  have HX0' := HX0'n
  clear HA0n HX0'n
  generalize World.setCell V4 ⟨w2.heap.size, 1, none⟩ (.slice E4 (i) f4) = W4 at *
  obtain ⟨⟨p0, p1, p2⟩, p3, p4, p5⟩ := box_facts HA0.out.box
  obtain ⟨⟨q0, q1⟩, ⟨q2, q3, q4⟩, ⟨q5, q6, q7⟩⟩ := rs_boxes HX0'.out
  go_upto_region 13 with (at_builtin; refine wpList_append_rd rfl (.tmp 103) (.tmp 104) 26 rfl w2.heap.size 9 Try.underlying26 hj hy0 hy1 hy2 rfl (by decide) rfl HA0.out.r1 rfl (HSR.out.below (rs_below HX0'.out)) (sc1 _) HP5.out (by decide) HA0.out.hb ?_; intro v V5 hown hg hx; obtain ⟨E5, f5, rfl, _, _⟩ := own_rd hown; have HN1 := Lib.hid (HA0.out.app1 hown hg hx.1); have hBg := HX0'.out.grown hg (rs_size HX0'.out) (fun k e => Nat.le_trans hz2 (HA0.out.r1.lt k e).1); clear p0 p1 p2 p3 p4 p5; obtain ⟨⟨p0, p1, p2⟩, p3, p4, p5⟩ := box_facts (HA0.out.mid1 hg))
  have hst := hBg.setCell (p := ⟨w2.heap.size, 1, none⟩) hz2 (.slice E5 (i + ss.length) f5)
  have HA0n := HN1
  have HX0'n := Lib.hid hst
  clear p0 p1 p2 p3 p4 p5 hown hg hx hBg HN1 hst q0 q1 q2 q3 q4 q5 q6 q7 HA0 HX0'
  have HA0 := HA0n
  have HX0' := HX0'n
  clear HA0n HX0'n
  generalize World.setCell V5 ⟨w2.heap.size, 1, none⟩ (.slice E5 (i + ss.length) f5) = W5 at *
  refine wp_region_sched (S := Below (w.heap.size + 1 + 1 + 1) (rsW w pg wd x nd)) [(0, true), (2, true), (3, true), (4, true), (5, true), (6, true), (7, true), (8, true), (1, false), (9, false), (10, true), (11, false)] (by kernel_rfl) (by kernel_rfl) (by kernel_rfl) (fun _ _ d _ _ h => by cases d <;> exact h) HX0'.out.drew ?_
  repeat (apply sched_take; (exact rfl); rfl; (intro W hW; obtain ⟨⟨q0, q1⟩, ⟨q2, q3, q4⟩, ⟨q5, q6, q7⟩⟩ := HF.out W hW; go_simp; (try with_reducible rfl)); simp only [Act.put, List.setIfInBounds_toArray, List.set_cons_zero, List.set_cons_succ])
  obtain ⟨⟨p0, p1, p2⟩, _⟩ := box_facts HA0.out.box
  apply sched_run; (exact rfl); rfl; intro K hK; go_simp
  refine hK.out _ _ HX0'.out.drew (fun _ => ?_)
  clear hK K p0 p1 p2
  try simp only [Act.put, List.setIfInBounds_toArray, List.set_cons_zero, List.set_cons_succ]
  apply sched_run; (exact rfl); rfl; intro K hK
  have HD := Lib.hid (HA0.out.below (Below.refl _ _).drew)
  refine wp_append_rd (.tmp 108) (.tmp 115) 26 rfl w2.heap.size 9 Try.underlying26 hj hy0 hy1 hy2 rfl (by decide) rfl HD.out.r1 rfl (HT4.out _ ((HN.out.below (rs_below HX0'.out.drew)).seps)) (sc1 _) HP6.out (by decide) HD.out.hb ?_
  intro v V6 hown hg hx
  obtain ⟨E6, f6, rfl, _, _⟩ := own_rd hown
  have HN1 := Lib.hid (HD.out.app1 hown hg hx.1)
  have hBg := HX0'.out.drew.grown hg (rs_size HX0'.out.drew) (fun k e => Nat.le_trans hz2 (HD.out.r1.lt k e).1)
  have hbx := box_facts (HD.out.mid1 hg)
  refine hK.out _ _ hBg (fun _ => ?_)
  clear hK K
  try simp only [Act.put, List.setIfInBounds_toArray, List.set_cons_zero, List.set_cons_succ]
  repeat (apply sched_take; (exact rfl); rfl; (intro W hW; obtain ⟨⟨q0, q1⟩, ⟨q2, q3, q4⟩, ⟨q5, q6, q7⟩⟩ := HF.out W hW; go_simp; (try with_reducible rfl)); simp only [Act.put, List.setIfInBounds_toArray, List.set_cons_zero, List.set_cons_succ])
  obtain ⟨⟨p0, p1, p2⟩, p3, p4, p5⟩ := hbx
  apply sched_run; (exact rfl); rfl; intro K hK; go_simp
  have hst := hBg.setCell (p := ⟨w2.heap.size, 1, none⟩) hz2 (.slice E6 (i + ss.length + (nd.seps.length - (i + n))) f6)
  refine hK.out _ _ hst (fun _ => ?_)
  clear hK K
  refine sched_done ?_
  have HA0n := HN1
  have HX0'n := Lib.hid hst
  clear p0 p1 p2 p3 p4 p5 hown hg hx hBg HD HN1 hst HA0 HX0'
  have HA0 := HA0n
  have HX0' := HX0'n
  clear HA0n HX0'n
  generalize World.setCell V6 ⟨w2.heap.size, 1, none⟩ (.slice E6 (i + ss.length + (nd.seps.length - (i + n))) f6) = W6 at *
  obtain ⟨hO, hrow⟩ := HFIN.out _ _ _ _ _ _ HA0.out
  have HO := Lib.hid hO
  have HRW := Lib.hid hrow
  have hlt := (Array.getElem?_eq_some_iff.1 hrow).1
  obtain ⟨⟨q0, q1⟩, ⟨q2, q3, q4⟩, ⟨q5, q6, q7⟩⟩ := rs_boxes HX0'.out
  obtain ⟨⟨p0, p1, p2⟩, _⟩ := box_facts hrow
  clear hO hrow HFIN HT1 HT2 HT3 HT4 HP1 HP2 HP3 HP4 HP5 HP6
  by_cases hc : E = 0
  · subst hc
    obtain rfl : F = 0 := by rw [← HFE.out, if_pos rfl]
    obtain rfl : R = ⟨[], SS, KK⟩ := by rw [← HRE.out, if_pos rfl]
    clear HFE HRE
    go_wp2_with (first
      | (go_at_call 69; go_must (refine (refCheck_v pg wd none E6 E3 0 f6 f3 ⟨[], SS, KK⟩ _ HO.out.rd _ HE.out).mono ?_; rintro e w3 ⟨rfl, hb⟩; have HB3 := Lib.hid (rs_next HX0'.out hb); have HO3 := Lib.hid (OwN.below HO.out hb).top; have hrow := (hb.block _ hlt).trans HRW.out; have hs3 := hb.size; clear hb HO q0 q1 q2 q3 q4 q5 q6 q7 p0 p1 p2; obtain ⟨⟨q0, q1⟩, ⟨q2, q3, q4⟩, ⟨q5, q6, q7⟩⟩ := rs_boxes HB3.out; obtain ⟨⟨p0, p1, p2⟩, _⟩ := box_facts hrow; have hg := rs_row HB3.out; have HRW3 := Lib.hid hrow; clear hrow))
      | (refine wpList_load_row rfl 29 (.tmp 14) rfl w2.heap.size rfl 29 #[.slice none 0 0, .slice E6 SS.length f6, .slice E3 KK.length f3] (0, 0) _ HRW3.out Try.underlying29 rfl info29' ?_)
      | (refine wpList_store_row rfl 29 (.tmp 12) (.tmp 123) rfl (w.heap.size + 1 + 1) #[.slice none 0 0, .slice E6 SS.length f6, .slice E3 KK.length f3] rfl rfl 29 _ hg info29' rfl (sl3_one _ _ _ _ _ _ _ _ _) ?_))
    refine bodyPost_ret (results_ct rfl _ _ (w.heap.size + 1 + 1) 29 #[.slice none 0 0, .slice E6 SS.length f6, .slice E3 KK.length f3] (0, 0) _ rfl (setRow_block _ _ _ _ _ _ hg) Try.underlying29 rfl info29') rfl ?_
    exact ⟨⟨none, 0, E6, f6, E3, f3⟩, rfl, (HO3.out.setRow' _ _ (.inl (by omega))).wide (by omega) (by simp [World.setRow]), below_setRow (rs_below HB3.out) (show w.heap.size ≤ w.heap.size + 1 + 1 by omega) _⟩
  · have hcc : (E != 0) = true := by simp [hc]
    obtain rfl : F = 81 := by rw [← HFE.out, if_neg hc]
    obtain rfl : R = noN := by rw [← HRE.out, if_neg hc]
    clear hc HFE HRE
    go_wp2_with (first
      | (go_at_call 69; go_must (refine (refCheck_v pg wd none E6 E3 0 f6 f3 ⟨[], SS, KK⟩ _ HO.out.rd _ HE.out).mono ?_; rintro e w3 ⟨rfl, hb⟩; have HB3 := Lib.hid (rs_next HX0'.out hb); clear hb HO q0 q1 q2 q3 q4 q5 q6 q7 p0 p1 p2; obtain ⟨⟨q0, q1⟩, ⟨q2, q3, q4⟩, ⟨q5, q6, q7⟩⟩ := rs_boxes HB3.out; have hg := rs_row HB3.out))
      | (refine wpList_store_row rfl 29 (.tmp 12) (.tmp 122) rfl (w.heap.size + 1 + 1) zero3 rfl rfl 29 _ hg info29' rfl (sl3_one _ _ _ _ _ _ _ _ _) ?_))
    refine bodyPost_ret (results_ct rfl _ _ (w.heap.size + 1 + 1) 29 zero3 (0, 0) _ rfl (setRow_block _ _ _ _ _ _ hg) Try.underlying29 rfl info29') rfl ?_
    exact splice_err w _ 81 (below_setRow (rs_below HB3.out) (show w.heap.size ≤ w.heap.size + 1 + 1 by omega) zero3)

theorem refSplice_c (pg wd a m : Int) (x : VH) (nd : NodeD) (KA SA : Option Addr) (kc sc : Nat) (ks : List KidD) (ss : List ByteArray) (w : World) (hN : RdN w x.A0 x.c0 x.A1 x.c1 x.A2 x.c2 nd)
    (hK : Rd w 33 KA ks.length (kcells ks)) (hS : Rd w 1 SA ss.length (scells ss)) (kk : ∀ k ∈ ks, k.sum.length = 32) (sk : ∀ s ∈ ss, s.size ≤ 140737488355328) (hkl : (nd.kids.length + ks.length) * 36 ≤ 140737488355328) (hsl : (nd.seps.length + ss.length) * 16 ≤ 140737488355328) :
    Calls Try.prog 47 #[vF pg wd, vN x.A0 x.c0 x.A1 x.c1 x.A2 x.c2 nd, .int .i64 a, .int .i64 m, .slice KA ks.length kc, .slice SA ss.length sc] w fun e w' => SplicePost (spliceE pg wd nd a m ks ss) (spliceR pg wd nd a m ks ss) w e w' := by
  unfold spliceR spliceE
  cases hr : right pg wd with
  | false =>
    simp only [Bool.false_eq_true, if_false]
    exact refSplice_wrong pg wd a m x nd KA SA _ kc _ sc w hr
  | true =>
    cases hb : branchB pg wd nd with
    | false =>
      simp only [Bool.false_eq_true, if_false, if_true]
      exact refSplice_unshaped pg wd a m x nd KA SA _ kc _ sc w hN hr hb
    | true =>
      by_cases h : argBad nd.kids.length a m ks.length ss.length
      · simp only [if_true, if_pos h]
        exact refSplice_bad pg wd a m x nd KA SA _ kc _ sc w hN hr hb (by omega) h
      · obtain ⟨i, n, rfl, rfl, h1, h2, h3, h4⟩ := argBad_not h
        simp only [if_true, if_neg h, splice_parts]
        have := refSplice_made pg wd x nd KA SA kc sc ks ss i n w hN hr hb hK hS kk sk hkl hsl h1 h3 h4 _ rfl _ rfl _ rfl
        by_cases hc : checkE pg wd ⟨[], nd.seps.take i ++ ss ++ nd.seps.drop (i + n), nd.kids.take i ++ ks ++ nd.kids.drop (i + (n + 1))⟩ = 0
        · rw [if_pos hc, if_pos hc] at this
          rw [if_pos hc, if_pos rfl]
          exact this
        · rw [if_neg hc, if_neg hc] at this
          rw [if_neg hc, if_neg (by decide)]
          exact this

end Go.Proofs.Ytajkoeodabmgeaa
