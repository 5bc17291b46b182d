import Derived.Test.YtajkoeodabmgeaaY6
namespace Go.Proofs.Ytajkoeodabmgeaa
open Go.RowKit
set_option maxHeartbeats 4000000
set_option maxRecDepth 100000
attribute [local go_sem] grow_cell grow_frozen grow_size

theorem sep_row' (w : World) (s : ByteArray) (g : Nat) (hg : g = w.heap.size) : Rd (w.alloc (.cells #[.string s] 9)) 1 (some ⟨g, 0, none⟩) 1 (scells [s]) := by
  subst hg; exact sep_row w s
theorem one_fin (w w1 : World) (pg wd : Int) (L R : NodeD) (s : ByteArray) (hE : joinE pg wd L s R = 0) (nd : NodeD) (hnd : joinN L s R = nd) (z : VH) (n0 n1 n2 : Nat) (h0 : n0 = nd.pairs.length) (h1 : n1 = nd.seps.length) (h2 : n2 = nd.kids.length) (hb : Below w.heap.size w w1) (h : VH.own z w1 w.heap.size w1.heap.size nd) :
    JoinPost pg wd L s R w (Ending.returned (.tuple #[.agg #[.slice z.A0 n0 z.c0, .slice z.A1 n1 z.c1, .slice z.A2 n2 z.c2], .int .i64 0])) w1 := by
  have hR : joinR pg wd L s R = nd := by rw [joinR, if_pos hE, hnd]
  subst h0 h1 h2
  refine ⟨z, ?_, ?_, hb⟩
  · rw [hR, hE]
  · rw [hR]; exact h
theorem own_of_ls {S : Nat → Prop} {W0 W : World} {base g : Nat} {A0 A1 A2 : Option Addr} {c0 c1 c2 n0 n1 n2 : Nat} {x0 x1 x2 : List Value} {nd : NodeD} (h : LS S W0 W base g (.slice A0 n0 c0) (.slice A1 n1 c1) (.slice A2 n2 c2) n0 n1 n2 x0 x1 x2)
    (e0 : n0 = nd.pairs.length) (e1 : n1 = nd.seps.length) (e2 : n2 = nd.kids.length) (f0 : x0 = pcells nd.pairs) (f1 : x1 = scells nd.seps) (f2 : x2 = kcells nd.kids)
    (hp : nd.pairs.length * 32 ≤ 140737488355328) (hs : nd.seps.length * 16 ≤ 140737488355328) (hk : nd.kids.length * 36 ≤ 140737488355328) (pk : ∀ p ∈ nd.pairs, p.k.size ≤ 140737488355328 ∧ p.v.size ≤ 140737488355328) (sk : ∀ s ∈ nd.seps, s.size ≤ 140737488355328) (kk : ∀ k ∈ nd.kids, k.sum.length = 32) :
    OwN W base W.heap.size A0 c0 A1 c1 A2 c2 nd := by
  subst e0 e1 e2 f0 f1 f2
  exact
  { pairs := h.r0, seps := h.r1, kids := h.r2, u0 := fun k e => own_lt h.r0 k e, u1 := fun k e => own_lt h.r1 k e, u2 := fun k e => own_lt h.r2 k e, hp := hp, hs := hs, hk := hk, pk := pk, sk := sk, kk := kk }

theorem one_leaf_ok (pg wd : Int) (x : VH) (L : NodeD) (s : ByteArray) (y : VH) (R : NodeD) (w : World) (hL : RdN w x.A0 x.c0 x.A1 x.c1 x.A2 x.c2 L) (hR : RdN w y.A0 y.c0 y.A1 y.c1 y.A2 y.c2 R) (hr : right pg wd = true) (h1 : leafB pg wd L = true) (h2 : leafB pg wd R = true) (hJ : JoinOk L s R) (hst : leafStand pg L s R = true) (hE : joinE pg wd L s R = 0) :
    Calls Try.prog 90 #[vF pg wd, vH x L s y R] w fun e w' => JoinPost pg wd L s R w e w' := by
  have HST : Hid (∀ w, RdN w x.A0 x.c0 x.A1 x.c1 x.A2 x.c2 L → RdN w y.A0 y.c0 y.A1 y.c1 y.A2 y.c2 R → Calls Try.prog 109 #[vF pg wd, vH x L s y R] w fun e w' => e = .returned (.bool true) ∧ Below w.heap.size w w') := Lib.hid (fun w h h' => by have := stands_leaf_c pg wd x L s y R w h h' hJ.s hr h1 h2; rwa [hst] at this)
  have HE := Lib.hid hE
  have HJ := Lib.hid hJ
  have hnd : joinN L s R = ⟨L.pairs ++ R.pairs, L.seps ++ R.seps, L.kids ++ R.kids⟩ := by rw [leaf_same h1, leaf_same h2]; simp [joinN]
  have hkk : ¬ ((0 : Int) < (L.kids.length : Int) + (R.kids.length : Int)) := by rw [leaf_same h1, leaf_same h2]; simp
  have HND := Lib.hid hnd
  have HRI := Lib.hid hr
  have HL := Lib.hid hL
  have HRD := Lib.hid hR
  clear hr hL hR
  have H1 := Lib.hid h1
  have H2 := Lib.hid h2
  clear h1 h2 hst hE hnd hJ
  have hb1 : (0 + L.pairs.length) * 32 ≤ 140737488355328 := by have := HL.out.hp; omega
  have hb2 : (0 + L.kids.length) * 36 ≤ 140737488355328 := by have := HL.out.hk; omega
  have hb3 : (0 + L.seps.length) * 16 ≤ 140737488355328 := by have := HL.out.hs; omega
  have HB1 := Lib.hid hb1
  have HB2 := Lib.hid hb2
  have HB3 := Lib.hid hb3
  clear hb1 hb2 hb3
  obtain ⟨i0, hi0, hz0, hz1, hz2⟩ := info_parts info31
  obtain ⟨j0', hj, hy0, hy1, hy2⟩ := info_parts info9
  obtain ⟨k0, hik, hx0, hx1, hx2⟩ := info_parts info85'
  have HX0 := Lib.hid hx0
  clear hx0
  go_enter Try.func90, Try.ntmps90
  go_wp2_with (first
    | (go_at_call 66; go_must (refine (refRight_v pg wd _ _ HRI.out).mono ?_; rintro e w1 ⟨rfl, hb1⟩; have hB1 := join_first hb1; clear hb1; obtain ⟨⟨s0, s1⟩, j0, j1, j2, j3, j4, j5, j6⟩ := join_boxes hB1))
    | (go_at_call 67; skip; (refine (refLeafK_v pg wd x L _ (HL.out.below (join_below hB1)) _ H1.out).mono ?_; rintro e w2 ⟨rfl, hb2⟩; clear s0 s1 j0 j1 j2 j3 j4 j5 j6; have hB2 := join_next hB1 hb2; clear hb2 hB1 H1; obtain ⟨⟨s0, s1⟩, j0, j1, j2, j3, j4, j5, j6⟩ := join_boxes hB2))
    | (go_at_call 67; go_must (refine (refLeafK_v pg wd y R _ (HRD.out.below (join_below hB2)) _ H2.out).mono ?_; rintro e w3 ⟨rfl, hb3⟩; clear s0 s1 j0 j1 j2 j3 j4 j5 j6; have hB2 := join_next hB2 hb3; clear hb3 H2; obtain ⟨⟨s0, s1⟩, j0, j1, j2, j3, j4, j5, j6⟩ := join_boxes hB2))
    | (go_at_call 87; skip; (refine (refBranchK_v pg wd x L _ (HL.out.below (join_below hB2)) _ H3.out).mono ?_; rintro e w4 ⟨rfl, hb4⟩; clear s0 s1 j0 j1 j2 j3 j4 j5 j6; have hB2 := join_next hB2 hb4; clear hb4 H3; obtain ⟨⟨s0, s1⟩, j0, j1, j2, j3, j4, j5, j6⟩ := join_boxes hB2))
    | (go_at_call 87; go_must (refine (refBranchK_v pg wd y R _ (HRD.out.below (join_below hB2)) _ H4.out).mono ?_; rintro e w5 ⟨rfl, hb5⟩; clear s0 s1 j0 j1 j2 j3 j4 j5 j6; have hB2 := join_next hB2 hb5; clear hb5 H4; obtain ⟨⟨s0, s1⟩, j0, j1, j2, j3, j4, j5, j6⟩ := join_boxes hB2))
    | (go_at_call 109; go_must (refine (HST.out _ (HL.out.below (join_below hB2)) (HRD.out.below (join_below hB2))).mono ?_; rintro e w6 ⟨rfl, hb6⟩; have HB6 := Lib.hid (join_next hB2 hb6); have HA0 := Lib.hid (ls_start w6); have HBX0 := Lib.hid (HB6.out.alloc (join_size HB6.out) (.cells zero3 29)); have z1 : w.heap.size + 1 < w6.heap.size := (by have := join_size HB6.out; omega); clear HST hb6 hB2; clear s0 s1 j0 j1 j2 j3 j4 j5 j6; obtain ⟨⟨q0, q1, q2⟩, q3, q4, q5⟩ := box_facts HA0.out.box; obtain ⟨⟨s0, s1⟩, j0, j1, j2, j3, j4, j5, j6⟩ := join_boxes HBX0.out))
    | (at_builtin; refine wpList_append_rd rfl (.tmp 42) (.tmp 45) 25 rfl w6.heap.size 31 Try.underlying25 hi0 hz0 hz1 hz2 rfl (by decide) rfl HA0.out.r0 rfl ((HL.out.below (join_below HBX0.out)).pairs) (pc1 _) HB1.out (by decide) HA0.out.hb ?_; intro v w7 hown hg hx; rw [Nat.zero_add, List.nil_append] at hown; obtain ⟨E1, f1, rfl, _, _⟩ := own_rd hown; have HA1 := Lib.hid (HA0.out.app0 hown hg hx.1); have hBg := HBX0.out.grown hg (join_size HBX0.out) (fun k e => Nat.le_trans (join_size HB6.out) (HA0.out.r0.lt k e).1); have HBX1 := Lib.hid (HB6.out.trans (HA1.out.kp.below (join_size HB6.out) (fun _ _ h => h))); clear q0 q1 q2 q3 q4 q5; clear s0 s1 j0 j1 j2 j3 j4 j5 j6; obtain ⟨⟨q0, q1, q2⟩, q3, q4, q5⟩ := box_facts (HA0.out.mid0 hg); obtain ⟨⟨s0, s1⟩, j0, j1, j2, j3, j4, j5, j6⟩ := join_boxes hBg; clear hown hg hx hBg HA0 HBX0)
    | (at_builtin; refine wpList_append_rd rfl (.tmp 49) (.tmp 52) 25 rfl w6.heap.size 31 Try.underlying25 hi0 hz0 hz1 hz2 rfl (by decide) rfl HA1.out.r0 rfl ((HRD.out.below (join_below HBX1.out)).pairs) (pc1 _) HJ.out.p (by decide) HA1.out.hb ?_; intro v w8 hown hg hx; obtain ⟨E2, f2, rfl, _, _⟩ := own_rd hown; have HA2 := Lib.hid (HA1.out.app0 hown hg hx.1); have hBg := HBX1.out.grown hg (join_size HBX1.out) (fun k e => Nat.le_trans (join_size HB6.out) (HA1.out.r0.lt k e).1); have HBX2 := Lib.hid (HB6.out.trans (HA2.out.kp.below (join_size HB6.out) (fun _ _ h => h))); clear q0 q1 q2 q3 q4 q5; clear s0 s1 j0 j1 j2 j3 j4 j5 j6; obtain ⟨⟨q0, q1, q2⟩, q3, q4, q5⟩ := box_facts (HA1.out.mid0 hg); obtain ⟨⟨s0, s1⟩, j0, j1, j2, j3, j4, j5, j6⟩ := join_boxes hBg; clear hown hg hx hBg HA1 HBX1)
    | (at_builtin; refine wpList_append_rd rfl (.tmp 56) (.tmp 59) 27 rfl w6.heap.size 85 Try.underlying27 hik HX0.out hx1 hx2 (by kernel_rfl) (by decide) rfl HA2.out.r2 rfl ((HL.out.below (join_below HBX2.out)).kids) (kc1 _) HB2.out (by decide) HA2.out.hb ?_; intro v w9 hown hg hx; rw [Nat.zero_add, List.nil_append] at hown; obtain ⟨E3, f3, rfl, _, _⟩ := own_rd hown; have HA3 := Lib.hid (HA2.out.app2 hown hg hx.1); have hBg := HBX2.out.grown hg (join_size HBX2.out) (fun k e => Nat.le_trans (join_size HB6.out) (HA2.out.r2.lt k e).1); have HBX3 := Lib.hid (HB6.out.trans (HA3.out.kp.below (join_size HB6.out) (fun _ _ h => h))); clear q0 q1 q2 q3 q4 q5; clear s0 s1 j0 j1 j2 j3 j4 j5 j6; obtain ⟨⟨q0, q1, q2⟩, q3, q4, q5⟩ := box_facts (HA2.out.mid2 hg); obtain ⟨⟨s0, s1⟩, j0, j1, j2, j3, j4, j5, j6⟩ := join_boxes hBg; clear hown hg hx hBg HA2 HBX2)
    | (at_builtin; refine wpList_append_rd rfl (.tmp 63) (.tmp 66) 27 rfl w6.heap.size 85 Try.underlying27 hik HX0.out hx1 hx2 (by kernel_rfl) (by decide) rfl HA3.out.r2 rfl ((HRD.out.below (join_below HBX3.out)).kids) (kc1 _) HJ.out.k (by decide) HA3.out.hb ?_; intro v w10 hown hg hx; obtain ⟨E4, f4, rfl, _, _⟩ := own_rd hown; have HA4 := Lib.hid (HA3.out.app2 hown hg hx.1); have hBg := HBX3.out.grown hg (join_size HBX3.out) (fun k e => Nat.le_trans (join_size HB6.out) (HA3.out.r2.lt k e).1); have HBX4 := Lib.hid (HB6.out.trans (HA4.out.kp.below (join_size HB6.out) (fun _ _ h => h))); clear q0 q1 q2 q3 q4 q5; clear s0 s1 j0 j1 j2 j3 j4 j5 j6; obtain ⟨⟨q0, q1, q2⟩, q3, q4, q5⟩ := box_facts (HA3.out.mid2 hg); obtain ⟨⟨s0, s1⟩, j0, j1, j2, j3, j4, j5, j6⟩ := join_boxes hBg; clear hown hg hx hBg HA3 HBX3)
    | (at_builtin; refine wpList_append_rd rfl (.tmp 70) (.tmp 73) 26 rfl w6.heap.size 9 Try.underlying26 hj hy0 hy1 hy2 rfl (by decide) rfl HA4.out.r1 rfl ((HL.out.below (join_below HBX4.out)).seps) (sc1 _) HB3.out (by decide) HA4.out.hb ?_; intro v w11 hown hg hx; rw [Nat.zero_add, List.nil_append] at hown; obtain ⟨E5, f5, rfl, _, _⟩ := own_rd hown; have HA5 := Lib.hid (HA4.out.app1 hown hg hx.1); have hBg := HBX4.out.grown hg (join_size HBX4.out) (fun k e => Nat.le_trans (join_size HB6.out) (HA4.out.r1.lt k e).1); have HBX5 := Lib.hid (HB6.out.trans (HA5.out.kp.below (join_size HB6.out) (fun _ _ h => h))); clear q0 q1 q2 q3 q4 q5; clear s0 s1 j0 j1 j2 j3 j4 j5 j6; obtain ⟨⟨q0, q1, q2⟩, q3, q4, q5⟩ := box_facts (HA4.out.mid1 hg); obtain ⟨⟨s0, s1⟩, j0, j1, j2, j3, j4, j5, j6⟩ := join_boxes hBg; clear hown hg hx hBg HA4 HBX4)
    | (at_builtin; refine wpList_append_rd rfl (.tmp 88) (.tmp 91) 26 rfl w6.heap.size 9 Try.underlying26 hj hy0 hy1 hy2 rfl (by decide) rfl HA5.out.r1 rfl ((HRD.out.below (join_below HBX5.out)).seps) (sc1 _) (by have := HJ.out.q; omega) (by decide) HA5.out.hb ?_; intro v w12 hown hg hx; obtain ⟨E6, f6, rfl, _, _⟩ := own_rd hown; have HA6 := Lib.hid (HA5.out.app1 hown hg hx.1); have hBg := HBX5.out.grown hg (join_size HBX5.out) (fun k e => Nat.le_trans (join_size HB6.out) (HA5.out.r1.lt k e).1); have HBX6 := Lib.hid (HB6.out.trans (HA6.out.kp.below (join_size HB6.out) (fun _ _ h => h))); clear q0 q1 q2 q3 q4 q5; clear s0 s1 j0 j1 j2 j3 j4 j5 j6; obtain ⟨⟨q0, q1, q2⟩, q3, q4, q5⟩ := box_facts (HA5.out.mid1 hg); obtain ⟨⟨s0, s1⟩, j0, j1, j2, j3, j4, j5, j6⟩ := join_boxes hBg; clear hown hg hx hBg HA5 HBX5)
    | (have hg := join_row HBX6.out; refine wpList_store_row rfl 29 (.tmp 4) (.tmp 94) rfl (w.heap.size + 1 + 1) #[.slice E2 (L.pairs.length + R.pairs.length) f2, .slice E6 (L.seps.length + R.seps.length) f6, .slice E4 (L.kids.length + R.kids.length) f4] rfl rfl 29 _ hg info29' rfl (sl3_one _ _ _ _ _ _ _ _ _) ?_))
  have hg := join_row HBX6.out
  refine bodyPost_ret (results_ct rfl _ _ (w.heap.size + 1 + 1) 29 #[.slice E2 (L.pairs.length + R.pairs.length) f2, .slice E6 (L.seps.length + R.seps.length) f6, .slice E4 (L.kids.length + R.kids.length) f4] (0, 0) _ rfl (setRow_block _ _ _ _ _ _ hg) Try.underlying29 rfl info29') rfl ?_
  have h := HA6.out
  have e0 : L.pairs.length + R.pairs.length = (L.pairs ++ R.pairs).length := by simp
  have e1 : L.seps.length + R.seps.length = (L.seps ++ R.seps).length := by rw [List.length_append]
  have e2 : L.kids.length + R.kids.length = (L.kids ++ R.kids).length := by simp
  have hs6 := join_size HB6.out
  have hO := own_of_ls (nd := ⟨L.pairs ++ R.pairs, L.seps ++ R.seps, L.kids ++ R.kids⟩) h e0 e1 e2 (pcells_append _ _).symm (scells_append _ _).symm (kcells_append _ _).symm (by rw [← e0]; exact HJ.out.p) (by rw [← e1]; have := HJ.out.q; omega) (by rw [← e2]; exact HJ.out.k) (fun q hq => (List.mem_append.1 hq).elim (HL.out.pk q) (HRD.out.pk q)) (fun q hq => (List.mem_append.1 hq).elim (HL.out.sk q) (HRD.out.sk q)) (fun q hq => (List.mem_append.1 hq).elim (HL.out.kk q) (HRD.out.kk q))
  exact one_fin w _ pg wd L R s HE.out _ HND.out ⟨E2, f2, E6, f6, E4, f4⟩ _ _ _ e0 e1 e2 (below_setRow (join_below HBX6.out) (by omega) _) ((OwN.setRow' hO _ _ (.inl (by omega))).wide (by omega) (by simp [World.setRow]))

theorem one_branch_ok (pg wd : Int) (x : VH) (L : NodeD) (s : ByteArray) (y : VH) (R : NodeD) (w : World) (hL : RdN w x.A0 x.c0 x.A1 x.c1 x.A2 x.c2 L) (hR : RdN w y.A0 y.c0 y.A1 y.c1 y.A2 y.c2 R) (hr : right pg wd = true) (h1 : branchB pg wd L = true) (h2 : branchB pg wd R = true) (hnl : leafB pg wd L = false) (hJ : JoinOk L s R) (hst : brStand pg L s R = true) (hE : joinE pg wd L s R = 0) :
    Calls Try.prog 90 #[vF pg wd, vH x L s y R] w fun e w' => JoinPost pg wd L s R w e w' := by
  have HST : Hid (∀ w, RdN w x.A0 x.c0 x.A1 x.c1 x.A2 x.c2 L → RdN w y.A0 y.c0 y.A1 y.c1 y.A2 y.c2 R → Calls Try.prog 109 #[vF pg wd, vH x L s y R] w fun e w' => e = .returned (.bool true) ∧ Below w.heap.size w w') := Lib.hid (fun w h h' => by have := stands_branch_c pg wd x L s y R w h h' hJ.s hr h1 h2; rwa [hst] at this)
  have HE := Lib.hid hE
  have HJ := Lib.hid hJ
  have hk1 : 0 < L.kids.length := (of_decide_eq_true h1).1
  have hnd : joinN L s R = ⟨L.pairs ++ R.pairs, L.seps ++ [s] ++ R.seps, L.kids ++ R.kids⟩ := by rw [joinN, if_neg (by omega), List.eq_nil_of_length_eq_zero (branch_nil h1), List.eq_nil_of_length_eq_zero (branch_nil h2)]; rfl
  have hkk : (0 : Int) < (L.kids.length : Int) + (R.kids.length : Int) := by omega
  clear hk1
  have HND := Lib.hid hnd
  have HRI := Lib.hid hr
  have HL := Lib.hid hL
  have HRD := Lib.hid hR
  clear hr hL hR
  have H1 := Lib.hid hnl
  have H3 := Lib.hid h1
  have H4 := Lib.hid h2
  clear hnl
  clear h1 h2 hst hE hnd hJ
  have hb1 : (0 + L.pairs.length) * 32 ≤ 140737488355328 := by have := HL.out.hp; omega
  have hb2 : (0 + L.kids.length) * 36 ≤ 140737488355328 := by have := HL.out.hk; omega
  have hb3 : (0 + L.seps.length) * 16 ≤ 140737488355328 := by have := HL.out.hs; omega
  have HB1 := Lib.hid hb1
  have HB2 := Lib.hid hb2
  have HB3 := Lib.hid hb3
  clear hb1 hb2 hb3
  obtain ⟨i0, hi0, hz0, hz1, hz2⟩ := info_parts info31
  obtain ⟨j0', hj, hy0, hy1, hy2⟩ := info_parts info9
  obtain ⟨k0, hik, hx0, hx1, hx2⟩ := info_parts info85'
  have HX0 := Lib.hid hx0
  clear hx0
  go_enter Try.func90, Try.ntmps90
  go_wp2_with (first
    | (go_at_call 66; go_must (refine (refRight_v pg wd _ _ HRI.out).mono ?_; rintro e w1 ⟨rfl, hb1⟩; have hB1 := join_first hb1; clear hb1; obtain ⟨⟨s0, s1⟩, j0, j1, j2, j3, j4, j5, j6⟩ := join_boxes hB1))
    | (go_at_call 67; skip; (refine (refLeafK_v pg wd x L _ (HL.out.below (join_below hB1)) _ H1.out).mono ?_; rintro e w2 ⟨rfl, hb2⟩; clear s0 s1 j0 j1 j2 j3 j4 j5 j6; have hB2 := join_next hB1 hb2; clear hb2 hB1 H1; obtain ⟨⟨s0, s1⟩, j0, j1, j2, j3, j4, j5, j6⟩ := join_boxes hB2))
    | (go_at_call 67; go_must (refine (refLeafK_v pg wd y R _ (HRD.out.below (join_below hB2)) _ H2.out).mono ?_; rintro e w3 ⟨rfl, hb3⟩; clear s0 s1 j0 j1 j2 j3 j4 j5 j6; have hB2 := join_next hB2 hb3; clear hb3 H2; obtain ⟨⟨s0, s1⟩, j0, j1, j2, j3, j4, j5, j6⟩ := join_boxes hB2))
    | (go_at_call 87; skip; (refine (refBranchK_v pg wd x L _ (HL.out.below (join_below hB2)) _ H3.out).mono ?_; rintro e w4 ⟨rfl, hb4⟩; clear s0 s1 j0 j1 j2 j3 j4 j5 j6; have hB2 := join_next hB2 hb4; clear hb4 H3; obtain ⟨⟨s0, s1⟩, j0, j1, j2, j3, j4, j5, j6⟩ := join_boxes hB2))
    | (go_at_call 87; go_must (refine (refBranchK_v pg wd y R _ (HRD.out.below (join_below hB2)) _ H4.out).mono ?_; rintro e w5 ⟨rfl, hb5⟩; clear s0 s1 j0 j1 j2 j3 j4 j5 j6; have hB2 := join_next hB2 hb5; clear hb5 H4; obtain ⟨⟨s0, s1⟩, j0, j1, j2, j3, j4, j5, j6⟩ := join_boxes hB2))
    | (go_at_call 109; go_must (refine (HST.out _ (HL.out.below (join_below hB2)) (HRD.out.below (join_below hB2))).mono ?_; rintro e w6 ⟨rfl, hb6⟩; have HB6 := Lib.hid (join_next hB2 hb6); have HA0 := Lib.hid (ls_start w6); have HBX0 := Lib.hid (HB6.out.alloc (join_size HB6.out) (.cells zero3 29)); have z1 : w.heap.size + 1 < w6.heap.size := (by have := join_size HB6.out; omega); clear HST hb6 hB2; clear s0 s1 j0 j1 j2 j3 j4 j5 j6; obtain ⟨⟨q0, q1, q2⟩, q3, q4, q5⟩ := box_facts HA0.out.box; obtain ⟨⟨s0, s1⟩, j0, j1, j2, j3, j4, j5, j6⟩ := join_boxes HBX0.out))
    | (at_builtin; refine wpList_append_rd rfl (.tmp 42) (.tmp 45) 25 rfl w6.heap.size 31 Try.underlying25 hi0 hz0 hz1 hz2 rfl (by decide) rfl HA0.out.r0 rfl ((HL.out.below (join_below HBX0.out)).pairs) (pc1 _) HB1.out (by decide) HA0.out.hb ?_; intro v w7 hown hg hx; rw [Nat.zero_add, List.nil_append] at hown; obtain ⟨E1, f1, rfl, _, _⟩ := own_rd hown; have HA1 := Lib.hid (HA0.out.app0 hown hg hx.1); have hBg := HBX0.out.grown hg (join_size HBX0.out) (fun k e => Nat.le_trans (join_size HB6.out) (HA0.out.r0.lt k e).1); have HBX1 := Lib.hid (HB6.out.trans (HA1.out.kp.below (join_size HB6.out) (fun _ _ h => h))); clear q0 q1 q2 q3 q4 q5; clear s0 s1 j0 j1 j2 j3 j4 j5 j6; obtain ⟨⟨q0, q1, q2⟩, q3, q4, q5⟩ := box_facts (HA0.out.mid0 hg); obtain ⟨⟨s0, s1⟩, j0, j1, j2, j3, j4, j5, j6⟩ := join_boxes hBg; clear hown hg hx hBg HA0 HBX0)
    | (at_builtin; refine wpList_append_rd rfl (.tmp 49) (.tmp 52) 25 rfl w6.heap.size 31 Try.underlying25 hi0 hz0 hz1 hz2 rfl (by decide) rfl HA1.out.r0 rfl ((HRD.out.below (join_below HBX1.out)).pairs) (pc1 _) HJ.out.p (by decide) HA1.out.hb ?_; intro v w8 hown hg hx; obtain ⟨E2, f2, rfl, _, _⟩ := own_rd hown; have HA2 := Lib.hid (HA1.out.app0 hown hg hx.1); have hBg := HBX1.out.grown hg (join_size HBX1.out) (fun k e => Nat.le_trans (join_size HB6.out) (HA1.out.r0.lt k e).1); have HBX2 := Lib.hid (HB6.out.trans (HA2.out.kp.below (join_size HB6.out) (fun _ _ h => h))); clear q0 q1 q2 q3 q4 q5; clear s0 s1 j0 j1 j2 j3 j4 j5 j6; obtain ⟨⟨q0, q1, q2⟩, q3, q4, q5⟩ := box_facts (HA1.out.mid0 hg); obtain ⟨⟨s0, s1⟩, j0, j1, j2, j3, j4, j5, j6⟩ := join_boxes hBg; clear hown hg hx hBg HA1 HBX1)
    | (at_builtin; refine wpList_append_rd rfl (.tmp 56) (.tmp 59) 27 rfl w6.heap.size 85 Try.underlying27 hik HX0.out hx1 hx2 (by kernel_rfl) (by decide) rfl HA2.out.r2 rfl ((HL.out.below (join_below HBX2.out)).kids) (kc1 _) HB2.out (by decide) HA2.out.hb ?_; intro v w9 hown hg hx; rw [Nat.zero_add, List.nil_append] at hown; obtain ⟨E3, f3, rfl, _, _⟩ := own_rd hown; have HA3 := Lib.hid (HA2.out.app2 hown hg hx.1); have hBg := HBX2.out.grown hg (join_size HBX2.out) (fun k e => Nat.le_trans (join_size HB6.out) (HA2.out.r2.lt k e).1); have HBX3 := Lib.hid (HB6.out.trans (HA3.out.kp.below (join_size HB6.out) (fun _ _ h => h))); clear q0 q1 q2 q3 q4 q5; clear s0 s1 j0 j1 j2 j3 j4 j5 j6; obtain ⟨⟨q0, q1, q2⟩, q3, q4, q5⟩ := box_facts (HA2.out.mid2 hg); obtain ⟨⟨s0, s1⟩, j0, j1, j2, j3, j4, j5, j6⟩ := join_boxes hBg; clear hown hg hx hBg HA2 HBX2)
    | (at_builtin; refine wpList_append_rd rfl (.tmp 63) (.tmp 66) 27 rfl w6.heap.size 85 Try.underlying27 hik HX0.out hx1 hx2 (by kernel_rfl) (by decide) rfl HA3.out.r2 rfl ((HRD.out.below (join_below HBX3.out)).kids) (kc1 _) HJ.out.k (by decide) HA3.out.hb ?_; intro v w10 hown hg hx; obtain ⟨E4, f4, rfl, _, _⟩ := own_rd hown; have HA4 := Lib.hid (HA3.out.app2 hown hg hx.1); have hBg := HBX3.out.grown hg (join_size HBX3.out) (fun k e => Nat.le_trans (join_size HB6.out) (HA3.out.r2.lt k e).1); have HBX4 := Lib.hid (HB6.out.trans (HA4.out.kp.below (join_size HB6.out) (fun _ _ h => h))); clear q0 q1 q2 q3 q4 q5; clear s0 s1 j0 j1 j2 j3 j4 j5 j6; obtain ⟨⟨q0, q1, q2⟩, q3, q4, q5⟩ := box_facts (HA3.out.mid2 hg); obtain ⟨⟨s0, s1⟩, j0, j1, j2, j3, j4, j5, j6⟩ := join_boxes hBg; clear hown hg hx hBg HA3 HBX3)
    | (at_builtin; refine wpList_append_rd rfl (.tmp 70) (.tmp 73) 26 rfl w6.heap.size 9 Try.underlying26 hj hy0 hy1 hy2 rfl (by decide) rfl HA4.out.r1 rfl ((HL.out.below (join_below HBX4.out)).seps) (sc1 _) HB3.out (by decide) HA4.out.hb ?_; intro v w11 hown hg hx; rw [Nat.zero_add, List.nil_append] at hown; obtain ⟨E5, f5, rfl, _, _⟩ := own_rd hown; have HA5 := Lib.hid (HA4.out.app1 hown hg hx.1); have hBg := HBX4.out.grown hg (join_size HBX4.out) (fun k e => Nat.le_trans (join_size HB6.out) (HA4.out.r1.lt k e).1); have HBX5 := Lib.hid (HB6.out.trans (HA5.out.kp.below (join_size HB6.out) (fun _ _ h => h))); clear q0 q1 q2 q3 q4 q5; clear s0 s1 j0 j1 j2 j3 j4 j5 j6; obtain ⟨⟨q0, q1, q2⟩, q3, q4, q5⟩ := box_facts (HA4.out.mid1 hg); obtain ⟨⟨s0, s1⟩, j0, j1, j2, j3, j4, j5, j6⟩ := join_boxes hBg; clear hown hg hx hBg HA4 HBX4)
    | (at_builtin; refine wpList_append_rd rfl (.tmp 81) (.tmp 84) 26 rfl w6.heap.size 9 Try.underlying26 hj hy0 hy1 hy2 rfl (by decide) rfl (HA5.out.alloc (.cells #[.string s] 9)).r1 rfl (sep_row' _ s _ (by simp)) (sc1 [s]) (by have := HJ.out.q; omega) (by decide) (HA5.out.alloc (.cells #[.string s] 9)).hb ?_; intro v w12 hown hg hx; obtain ⟨E6, f6, rfl, _, _⟩ := own_rd hown; have HA6 := Lib.hid ((HA5.out.alloc (.cells #[.string s] 9)).app1 hown hg hx.1); have HBY := Lib.hid (HBX5.out.alloc (join_size HBX5.out) (.cells #[.string s] 9)); have hBg := HBY.out.grown hg (join_size HBY.out) (fun k e => Nat.le_trans (join_size HB6.out) (HA5.out.r1.lt k e).1); have HBX6 := Lib.hid (HB6.out.trans (HA6.out.kp.below (join_size HB6.out) (fun _ _ h => h))); clear q0 q1 q2 q3 q4 q5; clear s0 s1 j0 j1 j2 j3 j4 j5 j6; obtain ⟨⟨q0, q1, q2⟩, q3, q4, q5⟩ := box_facts ((HA5.out.alloc (.cells #[.string s] 9)).mid1 hg); obtain ⟨⟨s0, s1⟩, j0, j1, j2, j3, j4, j5, j6⟩ := join_boxes hBg; clear hown hg hx hBg HA5 HBX5 HBY)
    | (at_builtin; refine wpList_append_rd rfl (.tmp 88) (.tmp 91) 26 rfl w6.heap.size 9 Try.underlying26 hj hy0 hy1 hy2 rfl (by decide) rfl HA6.out.r1 rfl ((HRD.out.below (join_below HBX6.out)).seps) (sc1 _) (by have := HJ.out.q; omega) (by decide) HA6.out.hb ?_; intro v w13 hown hg hx; obtain ⟨E7, f7, rfl, _, _⟩ := own_rd hown; have HA7 := Lib.hid (HA6.out.app1 hown hg hx.1); have hBg := HBX6.out.grown hg (join_size HBX6.out) (fun k e => Nat.le_trans (join_size HB6.out) (HA6.out.r1.lt k e).1); have HBX7 := Lib.hid (HB6.out.trans (HA7.out.kp.below (join_size HB6.out) (fun _ _ h => h))); clear q0 q1 q2 q3 q4 q5; clear s0 s1 j0 j1 j2 j3 j4 j5 j6; obtain ⟨⟨q0, q1, q2⟩, q3, q4, q5⟩ := box_facts (HA6.out.mid1 hg); obtain ⟨⟨s0, s1⟩, j0, j1, j2, j3, j4, j5, j6⟩ := join_boxes hBg; clear hown hg hx hBg HA6 HBX6)
    | (have hg := join_row HBX7.out; refine wpList_store_row rfl 29 (.tmp 4) (.tmp 94) rfl (w.heap.size + 1 + 1) #[.slice E2 (L.pairs.length + R.pairs.length) f2, .slice E7 (L.seps.length + 1 + R.seps.length) f7, .slice E4 (L.kids.length + R.kids.length) f4] rfl rfl 29 _ hg info29' rfl (sl3_one _ _ _ _ _ _ _ _ _) ?_))
  have hg := join_row HBX7.out
  refine bodyPost_ret (results_ct rfl _ _ (w.heap.size + 1 + 1) 29 #[.slice E2 (L.pairs.length + R.pairs.length) f2, .slice E7 (L.seps.length + 1 + R.seps.length) f7, .slice E4 (L.kids.length + R.kids.length) f4] (0, 0) _ rfl (setRow_block _ _ _ _ _ _ hg) Try.underlying29 rfl info29') rfl ?_
  have h := HA7.out
  have e0 : L.pairs.length + R.pairs.length = (L.pairs ++ R.pairs).length := by simp
  have e1 : L.seps.length + 1 + R.seps.length = (L.seps ++ [s] ++ R.seps).length := by rw [List.length_append, List.length_append]; rfl
  have e2 : L.kids.length + R.kids.length = (L.kids ++ R.kids).length := by simp
  have hs6 := join_size HB6.out
  have hO := own_of_ls (nd := ⟨L.pairs ++ R.pairs, L.seps ++ [s] ++ R.seps, L.kids ++ R.kids⟩) h e0 e1 e2 (pcells_append _ _).symm (by rw [scells_append, scells_append]) (kcells_append _ _).symm (by rw [← e0]; exact HJ.out.p) (by rw [← e1]; have := HJ.out.q; omega) (by rw [← e2]; exact HJ.out.k) (fun q hq => (List.mem_append.1 hq).elim (HL.out.pk q) (HRD.out.pk q)) (fun q hq => (List.mem_append.1 hq).elim (fun hq => (List.mem_append.1 hq).elim (HL.out.sk q) (fun h => by rw [List.mem_singleton.1 h]; exact HJ.out.s)) (HRD.out.sk q)) (fun q hq => (List.mem_append.1 hq).elim (HL.out.kk q) (HRD.out.kk q))
  exact one_fin w _ pg wd L R s HE.out _ HND.out ⟨E2, f2, E7, f7, E4, f4⟩ _ _ _ e0 e1 e2 (below_setRow (join_below HBX7.out) (by omega) _) ((OwN.setRow' hO _ _ (.inl (by omega))).wide (by omega) (by simp [World.setRow]))

end Go.Proofs.Ytajkoeodabmgeaa
