import Derived.Test.YtajkoeodabmgeaaSP1
namespace Go.Proofs.Ytajkoeodabmgeaa
open Go.RowKit
set_option maxHeartbeats 4000000
set_option maxRecDepth 100000
attribute [local go_sem] grow_cell grow_frozen grow_size

theorem splice_wrong (pg wd a m : Int) (x : VH) (nd : NodeD) (KA SA : Option Addr) (k kc s sc : Nat) (w : World) (hr : right pg wd = false) :
    Calls Try.prog 46 #[vF pg wd, vN x.A0 x.c0 x.A1 x.c1 x.A2 x.c2 nd, .int .i64 a, .int .i64 m, .slice KA k kc, .slice SA s sc] w fun e w' => SplicePost 2 noN w e w' := by
  have HR := Lib.hid hr
  clear hr
  go_enter Try.func46, Try.ntmps46
  go_wp2_with (first
    | (go_at_call 61; refine (frame_v pg wd _ _ HR.out).mono ?_; rintro e w1 ⟨rfl, hb⟩; have hB1 := sp_first hb; clear hb; obtain ⟨⟨q0, q1⟩, ⟨q2, q3, q4⟩, ⟨q5, q6, q7, q8⟩⟩ := sp_boxes hB1; have HG := Lib.hid (sp_row hB1); have HZ := Lib.hid (sp_zero hB1); have HB := Lib.hid hB1; clear hB1)
    | (refine wpList_load_row rfl 29 (.tmp 14) rfl (w.heap.size + 1 + 1 + 1) rfl 29 zero3 (0, 0) _ HZ.out Try.underlying29 rfl info29' ?_)
    | (refine wpList_store_row rfl 29 (.tmp 12) (.tmp 21) rfl (w.heap.size + 1 + 1) zero3 rfl rfl 29 _ HG.out info29' rfl (sl3_one _ _ _ _ _ _ _ _ _) ?_))
  refine bodyPost_ret (results_ct rfl _ _ (w.heap.size + 1 + 1) 29 zero3 (0, 0) _ rfl (setRow_block _ _ _ _ _ _ HG.out) Try.underlying29 rfl info29') rfl ?_
  exact splice_err w _ 2 (below_setRow (sp_below HB.out) (by omega) _)

theorem splice_unshaped (pg wd a m : Int) (x : VH) (nd : NodeD) (KA SA : Option Addr) (k kc s sc : Nat) (w : World) (hN : RdN w x.A0 x.c0 x.A1 x.c1 x.A2 x.c2 nd) (hr : right pg wd = true) (hb : branchB pg wd nd = false) :
    Calls Try.prog 46 #[vF pg wd, vN x.A0 x.c0 x.A1 x.c1 x.A2 x.c2 nd, .int .i64 a, .int .i64 m, .slice KA k kc, .slice SA s sc] w fun e w' => SplicePost 80 noN w e w' := by
  have HR := Lib.hid hr
  have HBR := Lib.hid hb
  have HN := Lib.hid hN
  clear hr hb hN
  go_enter Try.func46, Try.ntmps46
  go_wp2_with (first
    | (go_at_call 61; refine (frame_v pg wd _ _ HR.out).mono ?_; rintro e w1 ⟨rfl, hb⟩; have hB1 := sp_first hb; clear hb; obtain ⟨⟨q0, q1⟩, ⟨q2, q3, q4⟩, ⟨q5, q6, q7, q8⟩⟩ := sp_boxes hB1; have HG := Lib.hid (sp_row hB1); have HZ := Lib.hid (sp_zero hB1); have HB := Lib.hid hB1; clear hB1)
    | (go_at_call 84; refine (branch_v pg wd _ _ _ _ _ _ nd _ (HN.out.below (sp_below HB.out)) _ HBR.out).mono ?_; rintro e w2 ⟨rfl, hb⟩; have hB2 := sp_next HB.out hb; clear hb HG HZ HB q0 q1 q2 q3 q4 q5 q6 q7 q8; obtain ⟨⟨q0, q1⟩, ⟨q2, q3, q4⟩, ⟨q5, q6, q7, q8⟩⟩ := sp_boxes hB2; have HG := Lib.hid (sp_row hB2); have HZ := Lib.hid (sp_zero hB2); have HB := Lib.hid hB2; clear hB2)
    | (refine wpList_load_row rfl 29 (.tmp 14) rfl (w.heap.size + 1 + 1 + 1) rfl 29 zero3 (0, 0) _ HZ.out Try.underlying29 rfl info29' ?_)
    | (refine wpList_store_row rfl 29 (.tmp 12) (.tmp 27) rfl (w.heap.size + 1 + 1) zero3 rfl rfl 29 _ HG.out info29' rfl (sl3_one _ _ _ _ _ _ _ _ _) ?_))
  refine bodyPost_ret (results_ct rfl _ _ (w.heap.size + 1 + 1) 29 zero3 (0, 0) _ rfl (setRow_block _ _ _ _ _ _ HG.out) Try.underlying29 rfl info29') rfl ?_
  exact splice_err w _ 80 (below_setRow (sp_below HB.out) (by omega) _)

theorem splice_bad0 (pg wd a m : Int) (x : VH) (nd : NodeD) (KA SA : Option Addr) (k kc s sc : Nat) (w : World) (hN : RdN w x.A0 x.c0 x.A1 x.c1 x.A2 x.c2 nd) (hr : right pg wd = true) (hb : branchB pg wd nd = true) (b : a < 0) :
    Calls Try.prog 46 #[vF pg wd, vN x.A0 x.c0 x.A1 x.c1 x.A2 x.c2 nd, .int .i64 a, .int .i64 m, .slice KA k kc, .slice SA s sc] w fun e w' => SplicePost 2 noN w e w' := by
  have HR := Lib.hid hr
  have HBR := Lib.hid hb
  have HN := Lib.hid hN
  have hkk := hN.hk
  clear hr hb hN
  go_enter Try.func46, Try.ntmps46
  go_wp2_with (first
    | (go_at_call 61; refine (frame_v pg wd _ _ HR.out).mono ?_; rintro e w1 ⟨rfl, hb⟩; have hB1 := sp_first hb; clear hb; obtain ⟨⟨q0, q1⟩, ⟨q2, q3, q4⟩, ⟨q5, q6, q7, q8⟩⟩ := sp_boxes hB1; have HG := Lib.hid (sp_row hB1); have HZ := Lib.hid (sp_zero hB1); have HB := Lib.hid hB1; clear hB1)
    | (go_at_call 84; refine (branch_v pg wd _ _ _ _ _ _ nd _ (HN.out.below (sp_below HB.out)) _ HBR.out).mono ?_; rintro e w2 ⟨rfl, hb⟩; have hB2 := sp_next HB.out hb; clear hb HG HZ HB q0 q1 q2 q3 q4 q5 q6 q7 q8; obtain ⟨⟨q0, q1⟩, ⟨q2, q3, q4⟩, ⟨q5, q6, q7, q8⟩⟩ := sp_boxes hB2; have HG := Lib.hid (sp_row hB2); have HZ := Lib.hid (sp_zero hB2); have HB := Lib.hid hB2; clear hB2)
    | (refine wpList_load_row rfl 29 (.tmp 14) rfl (w.heap.size + 1 + 1 + 1) rfl 29 zero3 (0, 0) _ HZ.out Try.underlying29 rfl info29' ?_)
    | (refine wpList_store_row rfl 29 (.tmp 12) (.tmp 51) rfl (w.heap.size + 1 + 1) zero3 rfl rfl 29 _ HG.out info29' rfl (sl3_one _ _ _ _ _ _ _ _ _) ?_))
  refine bodyPost_ret (results_ct rfl _ _ (w.heap.size + 1 + 1) 29 zero3 (0, 0) _ rfl (setRow_block _ _ _ _ _ _ HG.out) Try.underlying29 rfl info29') rfl ?_
  exact splice_err w _ 2 (below_setRow (sp_below HB.out) (by omega) _)

theorem splice_bad1 (pg wd a m : Int) (x : VH) (nd : NodeD) (KA SA : Option Addr) (k kc s sc : Nat) (w : World) (hN : RdN w x.A0 x.c0 x.A1 x.c1 x.A2 x.c2 nd) (hr : right pg wd = true) (hb : branchB pg wd nd = true) (g0 : 0 ≤ a) (b : m < 1) :
    Calls Try.prog 46 #[vF pg wd, vN x.A0 x.c0 x.A1 x.c1 x.A2 x.c2 nd, .int .i64 a, .int .i64 m, .slice KA k kc, .slice SA s sc] w fun e w' => SplicePost 2 noN w e w' := by
  have HR := Lib.hid hr
  have HBR := Lib.hid hb
  have HN := Lib.hid hN
  have hkk := hN.hk
  clear hr hb hN
  go_enter Try.func46, Try.ntmps46
  go_wp2_with (first
    | (go_at_call 61; refine (frame_v pg wd _ _ HR.out).mono ?_; rintro e w1 ⟨rfl, hb⟩; have hB1 := sp_first hb; clear hb; obtain ⟨⟨q0, q1⟩, ⟨q2, q3, q4⟩, ⟨q5, q6, q7, q8⟩⟩ := sp_boxes hB1; have HG := Lib.hid (sp_row hB1); have HZ := Lib.hid (sp_zero hB1); have HB := Lib.hid hB1; clear hB1)
    | (go_at_call 84; refine (branch_v pg wd _ _ _ _ _ _ nd _ (HN.out.below (sp_below HB.out)) _ HBR.out).mono ?_; rintro e w2 ⟨rfl, hb⟩; have hB2 := sp_next HB.out hb; clear hb HG HZ HB q0 q1 q2 q3 q4 q5 q6 q7 q8; obtain ⟨⟨q0, q1⟩, ⟨q2, q3, q4⟩, ⟨q5, q6, q7, q8⟩⟩ := sp_boxes hB2; have HG := Lib.hid (sp_row hB2); have HZ := Lib.hid (sp_zero hB2); have HB := Lib.hid hB2; clear hB2)
    | (refine wpList_load_row rfl 29 (.tmp 14) rfl (w.heap.size + 1 + 1 + 1) rfl 29 zero3 (0, 0) _ HZ.out Try.underlying29 rfl info29' ?_)
    | (refine wpList_store_row rfl 29 (.tmp 12) (.tmp 51) rfl (w.heap.size + 1 + 1) zero3 rfl rfl 29 _ HG.out info29' rfl (sl3_one _ _ _ _ _ _ _ _ _) ?_))
  refine bodyPost_ret (results_ct rfl _ _ (w.heap.size + 1 + 1) 29 zero3 (0, 0) _ rfl (setRow_block _ _ _ _ _ _ HG.out) Try.underlying29 rfl info29') rfl ?_
  exact splice_err w _ 2 (below_setRow (sp_below HB.out) (by omega) _)

theorem splice_bad2 (pg wd a m : Int) (x : VH) (nd : NodeD) (KA SA : Option Addr) (k kc s sc : Nat) (w : World) (hN : RdN w x.A0 x.c0 x.A1 x.c1 x.A2 x.c2 nd) (hr : right pg wd = true) (hb : branchB pg wd nd = true) (g0 : 0 ≤ a) (g1 : 1 ≤ m) (b : (nd.kids.length : Int) < a) :
    Calls Try.prog 46 #[vF pg wd, vN x.A0 x.c0 x.A1 x.c1 x.A2 x.c2 nd, .int .i64 a, .int .i64 m, .slice KA k kc, .slice SA s sc] w fun e w' => SplicePost 2 noN w e w' := by
  have HR := Lib.hid hr
  have HBR := Lib.hid hb
  have HN := Lib.hid hN
  have hkk := hN.hk
  clear hr hb hN
  go_enter Try.func46, Try.ntmps46
  go_wp2_with (first
    | (go_at_call 61; refine (frame_v pg wd _ _ HR.out).mono ?_; rintro e w1 ⟨rfl, hb⟩; have hB1 := sp_first hb; clear hb; obtain ⟨⟨q0, q1⟩, ⟨q2, q3, q4⟩, ⟨q5, q6, q7, q8⟩⟩ := sp_boxes hB1; have HG := Lib.hid (sp_row hB1); have HZ := Lib.hid (sp_zero hB1); have HB := Lib.hid hB1; clear hB1)
    | (go_at_call 84; refine (branch_v pg wd _ _ _ _ _ _ nd _ (HN.out.below (sp_below HB.out)) _ HBR.out).mono ?_; rintro e w2 ⟨rfl, hb⟩; have hB2 := sp_next HB.out hb; clear hb HG HZ HB q0 q1 q2 q3 q4 q5 q6 q7 q8; obtain ⟨⟨q0, q1⟩, ⟨q2, q3, q4⟩, ⟨q5, q6, q7, q8⟩⟩ := sp_boxes hB2; have HG := Lib.hid (sp_row hB2); have HZ := Lib.hid (sp_zero hB2); have HB := Lib.hid hB2; clear hB2)
    | (refine wpList_load_row rfl 29 (.tmp 14) rfl (w.heap.size + 1 + 1 + 1) rfl 29 zero3 (0, 0) _ HZ.out Try.underlying29 rfl info29' ?_)
    | (refine wpList_store_row rfl 29 (.tmp 12) (.tmp 51) rfl (w.heap.size + 1 + 1) zero3 rfl rfl 29 _ HG.out info29' rfl (sl3_one _ _ _ _ _ _ _ _ _) ?_))
  refine bodyPost_ret (results_ct rfl _ _ (w.heap.size + 1 + 1) 29 zero3 (0, 0) _ rfl (setRow_block _ _ _ _ _ _ HG.out) Try.underlying29 rfl info29') rfl ?_
  exact splice_err w _ 2 (below_setRow (sp_below HB.out) (by omega) _)

theorem splice_bad3 (pg wd a m : Int) (x : VH) (nd : NodeD) (KA SA : Option Addr) (k kc s sc : Nat) (w : World) (hN : RdN w x.A0 x.c0 x.A1 x.c1 x.A2 x.c2 nd) (hr : right pg wd = true) (hb : branchB pg wd nd = true) (g0 : 0 ≤ a) (g1 : 1 ≤ m) (g2 : a ≤ (nd.kids.length : Int)) (b : (nd.kids.length : Int) - a < m) :
    Calls Try.prog 46 #[vF pg wd, vN x.A0 x.c0 x.A1 x.c1 x.A2 x.c2 nd, .int .i64 a, .int .i64 m, .slice KA k kc, .slice SA s sc] w fun e w' => SplicePost 2 noN w e w' := by
  have HR := Lib.hid hr
  have HBR := Lib.hid hb
  have HN := Lib.hid hN
  have hkk := hN.hk
  clear hr hb hN
  go_enter Try.func46, Try.ntmps46
  go_wp2_with (first
    | (go_at_call 61; refine (frame_v pg wd _ _ HR.out).mono ?_; rintro e w1 ⟨rfl, hb⟩; have hB1 := sp_first hb; clear hb; obtain ⟨⟨q0, q1⟩, ⟨q2, q3, q4⟩, ⟨q5, q6, q7, q8⟩⟩ := sp_boxes hB1; have HG := Lib.hid (sp_row hB1); have HZ := Lib.hid (sp_zero hB1); have HB := Lib.hid hB1; clear hB1)
    | (go_at_call 84; refine (branch_v pg wd _ _ _ _ _ _ nd _ (HN.out.below (sp_below HB.out)) _ HBR.out).mono ?_; rintro e w2 ⟨rfl, hb⟩; have hB2 := sp_next HB.out hb; clear hb HG HZ HB q0 q1 q2 q3 q4 q5 q6 q7 q8; obtain ⟨⟨q0, q1⟩, ⟨q2, q3, q4⟩, ⟨q5, q6, q7, q8⟩⟩ := sp_boxes hB2; have HG := Lib.hid (sp_row hB2); have HZ := Lib.hid (sp_zero hB2); have HB := Lib.hid hB2; clear hB2)
    | (refine wpList_load_row rfl 29 (.tmp 14) rfl (w.heap.size + 1 + 1 + 1) rfl 29 zero3 (0, 0) _ HZ.out Try.underlying29 rfl info29' ?_)
    | (refine wpList_store_row rfl 29 (.tmp 12) (.tmp 51) rfl (w.heap.size + 1 + 1) zero3 rfl rfl 29 _ HG.out info29' rfl (sl3_one _ _ _ _ _ _ _ _ _) ?_))
  refine bodyPost_ret (results_ct rfl _ _ (w.heap.size + 1 + 1) 29 zero3 (0, 0) _ rfl (setRow_block _ _ _ _ _ _ HG.out) Try.underlying29 rfl info29') rfl ?_
  exact splice_err w _ 2 (below_setRow (sp_below HB.out) (by omega) _)

theorem splice_bad4 (pg wd a m : Int) (x : VH) (nd : NodeD) (KA SA : Option Addr) (k kc s sc : Nat) (w : World) (hN : RdN w x.A0 x.c0 x.A1 x.c1 x.A2 x.c2 nd) (hr : right pg wd = true) (hb : branchB pg wd nd = true) (g0 : 0 ≤ a) (g1 : 1 ≤ m) (g2 : a ≤ (nd.kids.length : Int)) (g3 : m ≤ (nd.kids.length : Int) - a) (b : k = 0) :
    Calls Try.prog 46 #[vF pg wd, vN x.A0 x.c0 x.A1 x.c1 x.A2 x.c2 nd, .int .i64 a, .int .i64 m, .slice KA k kc, .slice SA s sc] w fun e w' => SplicePost 2 noN w e w' := by
  have HR := Lib.hid hr
  have HBR := Lib.hid hb
  have HN := Lib.hid hN
  have hkk := hN.hk
  have b0 : ((k : Int) == 0) = true := by rw [b]; rfl
  have b1 : (k == 0) = true := by rw [b]; rfl
  clear hr hb hN b
  go_enter Try.func46, Try.ntmps46
  go_wp2_with (first
    | (go_at_call 61; refine (frame_v pg wd _ _ HR.out).mono ?_; rintro e w1 ⟨rfl, hb⟩; have hB1 := sp_first hb; clear hb; obtain ⟨⟨q0, q1⟩, ⟨q2, q3, q4⟩, ⟨q5, q6, q7, q8⟩⟩ := sp_boxes hB1; have HG := Lib.hid (sp_row hB1); have HZ := Lib.hid (sp_zero hB1); have HB := Lib.hid hB1; clear hB1)
    | (go_at_call 84; refine (branch_v pg wd _ _ _ _ _ _ nd _ (HN.out.below (sp_below HB.out)) _ HBR.out).mono ?_; rintro e w2 ⟨rfl, hb⟩; have hB2 := sp_next HB.out hb; clear hb HG HZ HB q0 q1 q2 q3 q4 q5 q6 q7 q8; obtain ⟨⟨q0, q1⟩, ⟨q2, q3, q4⟩, ⟨q5, q6, q7, q8⟩⟩ := sp_boxes hB2; have HG := Lib.hid (sp_row hB2); have HZ := Lib.hid (sp_zero hB2); have HB := Lib.hid hB2; clear hB2)
    | (refine wpList_load_row rfl 29 (.tmp 14) rfl (w.heap.size + 1 + 1 + 1) rfl 29 zero3 (0, 0) _ HZ.out Try.underlying29 rfl info29' ?_)
    | (refine wpList_store_row rfl 29 (.tmp 12) (.tmp 64) rfl (w.heap.size + 1 + 1) zero3 rfl rfl 29 _ HG.out info29' rfl (sl3_one _ _ _ _ _ _ _ _ _) ?_))
  refine bodyPost_ret (results_ct rfl _ _ (w.heap.size + 1 + 1) 29 zero3 (0, 0) _ rfl (setRow_block _ _ _ _ _ _ HG.out) Try.underlying29 rfl info29') rfl ?_
  exact splice_err w _ 2 (below_setRow (sp_below HB.out) (by omega) _)

theorem splice_bad5 (pg wd a m : Int) (x : VH) (nd : NodeD) (KA SA : Option Addr) (k kc s sc : Nat) (w : World) (hN : RdN w x.A0 x.c0 x.A1 x.c1 x.A2 x.c2 nd) (hr : right pg wd = true) (hb : branchB pg wd nd = true) (hk : k * 36 ≤ 140737488355328) (g0 : 0 ≤ a) (g1 : 1 ≤ m) (g2 : a ≤ (nd.kids.length : Int)) (g3 : m ≤ (nd.kids.length : Int) - a) (g4 : 0 < k) (b : (s : Int) ≠ k - 1) :
    Calls Try.prog 46 #[vF pg wd, vN x.A0 x.c0 x.A1 x.c1 x.A2 x.c2 nd, .int .i64 a, .int .i64 m, .slice KA k kc, .slice SA s sc] w fun e w' => SplicePost 2 noN w e w' := by
  have HR := Lib.hid hr
  have HBR := Lib.hid hb
  have HN := Lib.hid hN
  have hkk := hN.hk
  have b0 : ((k : Int) == 0) = false := by rw [beq_eq_false_iff_ne]; omega
  have b2 : ((s : Int) != (k : Int) - 1) = true := by rw [bne_iff_ne]; exact b
  clear hr hb hN b
  go_enter Try.func46, Try.ntmps46
  go_wp2_with (first
    | (go_at_call 61; refine (frame_v pg wd _ _ HR.out).mono ?_; rintro e w1 ⟨rfl, hb⟩; have hB1 := sp_first hb; clear hb; obtain ⟨⟨q0, q1⟩, ⟨q2, q3, q4⟩, ⟨q5, q6, q7, q8⟩⟩ := sp_boxes hB1; have HG := Lib.hid (sp_row hB1); have HZ := Lib.hid (sp_zero hB1); have HB := Lib.hid hB1; clear hB1)
    | (go_at_call 84; refine (branch_v pg wd _ _ _ _ _ _ nd _ (HN.out.below (sp_below HB.out)) _ HBR.out).mono ?_; rintro e w2 ⟨rfl, hb⟩; have hB2 := sp_next HB.out hb; clear hb HG HZ HB q0 q1 q2 q3 q4 q5 q6 q7 q8; obtain ⟨⟨q0, q1⟩, ⟨q2, q3, q4⟩, ⟨q5, q6, q7, q8⟩⟩ := sp_boxes hB2; have HG := Lib.hid (sp_row hB2); have HZ := Lib.hid (sp_zero hB2); have HB := Lib.hid hB2; clear hB2)
    | (refine wpList_load_row rfl 29 (.tmp 14) rfl (w.heap.size + 1 + 1 + 1) rfl 29 zero3 (0, 0) _ HZ.out Try.underlying29 rfl info29' ?_)
    | (refine wpList_store_row rfl 29 (.tmp 12) (.tmp 64) rfl (w.heap.size + 1 + 1) zero3 rfl rfl 29 _ HG.out info29' rfl (sl3_one _ _ _ _ _ _ _ _ _) ?_))
  refine bodyPost_ret (results_ct rfl _ _ (w.heap.size + 1 + 1) 29 zero3 (0, 0) _ rfl (setRow_block _ _ _ _ _ _ HG.out) Try.underlying29 rfl info29') rfl ?_
  exact splice_err w _ 2 (below_setRow (sp_below HB.out) (by omega) _)

theorem splice_bad6 (pg wd a m : Int) (x : VH) (nd : NodeD) (KA SA : Option Addr) (k kc s sc : Nat) (w : World) (hN : RdN w x.A0 x.c0 x.A1 x.c1 x.A2 x.c2 nd) (hr : right pg wd = true) (hb : branchB pg wd nd = true) (hk : k * 36 ≤ 140737488355328) (g0 : 0 ≤ a) (g1 : 1 ≤ m) (g2 : a ≤ (nd.kids.length : Int)) (g3 : m ≤ (nd.kids.length : Int) - a) (g4 : 0 < k) (g5 : (s : Int) = k - 1) (b : (nd.kids.length : Int) - m + k < 2) :
    Calls Try.prog 46 #[vF pg wd, vN x.A0 x.c0 x.A1 x.c1 x.A2 x.c2 nd, .int .i64 a, .int .i64 m, .slice KA k kc, .slice SA s sc] w fun e w' => SplicePost 2 noN w e w' := by
  have HR := Lib.hid hr
  have HBR := Lib.hid hb
  have HN := Lib.hid hN
  have hkk := hN.hk
  have b0 : ((k : Int) == 0) = false := by rw [beq_eq_false_iff_ne]; omega
  have b2 : ((s : Int) != (k : Int) - 1) = false := by rw [g5]; simp
  clear hr hb hN g5
  go_enter Try.func46, Try.ntmps46
  go_wp2_with (first
    | (go_at_call 61; refine (frame_v pg wd _ _ HR.out).mono ?_; rintro e w1 ⟨rfl, hb⟩; have hB1 := sp_first hb; clear hb; obtain ⟨⟨q0, q1⟩, ⟨q2, q3, q4⟩, ⟨q5, q6, q7, q8⟩⟩ := sp_boxes hB1; have HG := Lib.hid (sp_row hB1); have HZ := Lib.hid (sp_zero hB1); have HB := Lib.hid hB1; clear hB1)
    | (go_at_call 84; refine (branch_v pg wd _ _ _ _ _ _ nd _ (HN.out.below (sp_below HB.out)) _ HBR.out).mono ?_; rintro e w2 ⟨rfl, hb⟩; have hB2 := sp_next HB.out hb; clear hb HG HZ HB q0 q1 q2 q3 q4 q5 q6 q7 q8; obtain ⟨⟨q0, q1⟩, ⟨q2, q3, q4⟩, ⟨q5, q6, q7, q8⟩⟩ := sp_boxes hB2; have HG := Lib.hid (sp_row hB2); have HZ := Lib.hid (sp_zero hB2); have HB := Lib.hid hB2; clear hB2)
    | (refine wpList_load_row rfl 29 (.tmp 14) rfl (w.heap.size + 1 + 1 + 1) rfl 29 zero3 (0, 0) _ HZ.out Try.underlying29 rfl info29' ?_)
    | (refine wpList_store_row rfl 29 (.tmp 12) (.tmp 75) rfl (w.heap.size + 1 + 1) zero3 rfl rfl 29 _ HG.out info29' rfl (sl3_one _ _ _ _ _ _ _ _ _) ?_))
  refine bodyPost_ret (results_ct rfl _ _ (w.heap.size + 1 + 1) 29 zero3 (0, 0) _ rfl (setRow_block _ _ _ _ _ _ HG.out) Try.underlying29 rfl info29') rfl ?_
  exact splice_err w _ 2 (below_setRow (sp_below HB.out) (by omega) _)

theorem splice_bad (pg wd a m : Int) (x : VH) (nd : NodeD) (KA SA : Option Addr) (k kc s sc : Nat) (w : World) (hN : RdN w x.A0 x.c0 x.A1 x.c1 x.A2 x.c2 nd) (hr : right pg wd = true) (hb : branchB pg wd nd = true) (hk : k * 36 ≤ 140737488355328) (h : argBad nd.kids.length a m k s) :
    Calls Try.prog 46 #[vF pg wd, vN x.A0 x.c0 x.A1 x.c1 x.A2 x.c2 nd, .int .i64 a, .int .i64 m, .slice KA k kc, .slice SA s sc] w fun e w' => SplicePost 2 noN w e w' := by
  by_cases g0 : a < 0
  · exact splice_bad0 pg wd a m x nd KA SA k kc s sc w hN hr hb  g0
  by_cases g1 : m < 1
  · exact splice_bad1 pg wd a m x nd KA SA k kc s sc w hN hr hb (by omega) g1
  by_cases g2 : (nd.kids.length : Int) < a
  · exact splice_bad2 pg wd a m x nd KA SA k kc s sc w hN hr hb (by omega) (by omega) g2
  by_cases g3 : (nd.kids.length : Int) - a < m
  · exact splice_bad3 pg wd a m x nd KA SA k kc s sc w hN hr hb (by omega) (by omega) (by omega) g3
  by_cases g4 : k = 0
  · exact splice_bad4 pg wd a m x nd KA SA k kc s sc w hN hr hb (by omega) (by omega) (by omega) (by omega) g4
  by_cases g5 : (s : Int) ≠ k - 1
  · exact splice_bad5 pg wd a m x nd KA SA k kc s sc w hN hr hb hk (by omega) (by omega) (by omega) (by omega) (by omega) g5
  by_cases g6 : (nd.kids.length : Int) - m + k < 2
  · exact splice_bad6 pg wd a m x nd KA SA k kc s sc w hN hr hb hk (by omega) (by omega) (by omega) (by omega) (by omega) (by omega) g6
  unfold argBad at h; omega

end Go.Proofs.Ytajkoeodabmgeaa
