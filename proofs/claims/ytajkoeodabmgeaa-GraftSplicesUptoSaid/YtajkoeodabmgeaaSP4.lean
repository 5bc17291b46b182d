import Derived.Test.YtajkoeodabmgeaaSP1
import Derived.Test.YtajkoeodabmgeaaY6
import Derived.Deep.Cut
namespace Go.Proofs.Ytajkoeodabmgeaa
open Go.RowKit
set_option maxHeartbeats 4000000
set_option maxRecDepth 100000
attribute [local go_sem] grow_cell grow_frozen grow_size

abbrev rsW (w : World) (pg wd : Int) (x : VH) (nd : NodeD) : World :=
  ((w.alloc (.cells #[.int .i64 pg, .int .i64 wd] 24)).alloc (.cells (node3 x nd) 29)).alloc (.cells zero3 29)
section
variable {w w1 w2 : World} {pg wd : Int} {x : VH} {nd : NodeD}
theorem rs_size (h : Below (w.heap.size + 1 + 1 + 1) (rsW w pg wd x nd) w1) : w.heap.size + 1 + 1 + 1 ≤ w1.heap.size := by
  have := h.size; simpa [rsW] using this
theorem rs_first (hb : Below (rsW w pg wd x nd).heap.size (rsW w pg wd x nd) w1) : Below (w.heap.size + 1 + 1 + 1) (rsW w pg wd x nd) w1 := hb.mono (by simp [rsW])
theorem rs_next (h : Below (w.heap.size + 1 + 1 + 1) (rsW w pg wd x nd) w1) (hb : Below w1.heap.size w1 w2) : Below (w.heap.size + 1 + 1 + 1) (rsW w pg wd x nd) w2 := h.trans (hb.mono (rs_size h))
theorem rs_base : Below w.heap.size w (rsW w pg wd x nd) :=
  ((((Below.refl _ _).alloc (Nat.le_refl _) _).alloc (by simp) _).alloc (by simp <;> omega) _)
theorem rs_below (h : Below (w.heap.size + 1 + 1 + 1) (rsW w pg wd x nd) w1) : Below w.heap.size w w1 := rs_base.trans (h.mono (by omega))
theorem rs_row (h : Below (w.heap.size + 1 + 1 + 1) (rsW w pg wd x nd) w1) : w1.heap[w.heap.size + 1 + 1]? = some (.cells zero3 29 (0, 0)) := (h.block _ (by omega)).trans (alloc3_at w _ _ _)
theorem rs_boxes (h : Below (w.heap.size + 1 + 1 + 1) (rsW w pg wd x nd) w1) :
    (w1.cell? ⟨w.heap.size, 0, none⟩ = some (.int .i64 pg) ∧ w1.cell? ⟨w.heap.size, 1, none⟩ = some (.int .i64 wd)) ∧
    (w1.cell? ⟨w.heap.size + 1, 0, none⟩ = some (.slice x.A0 nd.pairs.length x.c0) ∧ w1.cell? ⟨w.heap.size + 1, 1, none⟩ = some (.slice x.A1 nd.seps.length x.c1) ∧ w1.cell? ⟨w.heap.size + 1, 2, none⟩ = some (.slice x.A2 nd.kids.length x.c2)) ∧
    (w.heap.size < w1.heap.size ∧ w.heap.size + 1 < w1.heap.size ∧ w.heap.size + 1 + 1 < w1.heap.size) := by
  have h0 : w1.heap[w.heap.size]? = some (.cells #[.int .i64 pg, .int .i64 wd] 24 (0, 0)) := (h.block _ (by omega)).trans (alloc3_0 w _ _ _)
  have h1 : w1.heap[w.heap.size + 1]? = some (.cells (node3 x nd) 29 (0, 0)) := (h.block _ (by omega)).trans (alloc3_1 w _ _ _)
  have hs := rs_size h
  exact ⟨⟨cell_of_row _ _ 0 _ _ _ h0, cell_of_row _ _ 1 _ _ _ h0⟩, ⟨cell_of_row _ _ 0 _ _ _ h1, cell_of_row _ _ 1 _ _ _ h1, cell_of_row _ _ 2 _ _ _ h1⟩, by omega, by omega, by omega⟩
end

theorem refSplice_wrong (pg wd a m : Int) (x : VH) (nd : NodeD) (KA SA : Option Addr) (k kc s sc : Nat) (w : World) (hr : right pg wd = false) :
    Calls Try.prog 47 #[vF pg wd, vN x.A0 x.c0 x.A1 x.c1 x.A2 x.c2 nd, .int .i64 a, .int .i64 m, .slice KA k kc, .slice SA s sc] w fun e w' => SplicePost 2 noN w e w' := by
  have HR := Lib.hid hr
  clear hr
  go_enter Try.func47, Try.ntmps47
  go_wp2_with (first
    | (go_at_call 66; refine (refRight_v pg wd _ _ HR.out).mono ?_; rintro e w1 ⟨rfl, hb⟩; have hB1 := rs_first hb; clear hb; obtain ⟨⟨q0, q1⟩, ⟨q2, q3, q4⟩, ⟨q5, q6, q7⟩⟩ := rs_boxes hB1; have HG := Lib.hid (rs_row hB1); have HB := Lib.hid hB1; clear hB1)
    | (refine wpList_store_row rfl 29 (.tmp 12) (.tmp 18) rfl (w.heap.size + 1 + 1) zero3 rfl rfl 29 _ HG.out info29' rfl (sl3_one _ _ _ _ _ _ _ _ _) ?_))
  refine bodyPost_ret (results_ct rfl _ _ (w.heap.size + 1 + 1) 29 zero3 (0, 0) _ rfl (setRow_block _ _ _ _ _ _ HG.out) Try.underlying29 rfl info29') rfl ?_
  exact splice_err w _ 2 (below_setRow (rs_below HB.out) (by omega) _)

theorem refSplice_unshaped (pg wd a m : Int) (x : VH) (nd : NodeD) (KA SA : Option Addr) (k kc s sc : Nat) (w : World) (hN : RdN w x.A0 x.c0 x.A1 x.c1 x.A2 x.c2 nd) (hr : right pg wd = true) (hb : branchB pg wd nd = false) :
    Calls Try.prog 47 #[vF pg wd, vN x.A0 x.c0 x.A1 x.c1 x.A2 x.c2 nd, .int .i64 a, .int .i64 m, .slice KA k kc, .slice SA s sc] w fun e w' => SplicePost 80 noN w e w' := by
  have HR := Lib.hid hr
  have HBR := Lib.hid hb
  have HN := Lib.hid hN
  clear hr hb hN
  go_enter Try.func47, Try.ntmps47
  go_wp2_with (first
    | (go_at_call 66; refine (refRight_v pg wd _ _ HR.out).mono ?_; rintro e w1 ⟨rfl, hb⟩; have hB1 := rs_first hb; clear hb; obtain ⟨⟨q0, q1⟩, ⟨q2, q3, q4⟩, ⟨q5, q6, q7⟩⟩ := rs_boxes hB1; have HG := Lib.hid (rs_row hB1); have HB := Lib.hid hB1; clear hB1)
    | (go_at_call 87; refine (refBranchK_v pg wd x nd _ (HN.out.below (rs_below HB.out)) _ HBR.out).mono ?_; rintro e w2 ⟨rfl, hb⟩; have hB2 := rs_next HB.out hb; clear hb HG HB q0 q1 q2 q3 q4 q5 q6 q7; obtain ⟨⟨q0, q1⟩, ⟨q2, q3, q4⟩, ⟨q5, q6, q7⟩⟩ := rs_boxes hB2; have HG := Lib.hid (rs_row hB2); have HB := Lib.hid hB2; clear hB2)
    | (refine wpList_store_row rfl 29 (.tmp 12) (.tmp 23) rfl (w.heap.size + 1 + 1) zero3 rfl rfl 29 _ HG.out info29' rfl (sl3_one _ _ _ _ _ _ _ _ _) ?_))
  refine bodyPost_ret (results_ct rfl _ _ (w.heap.size + 1 + 1) 29 zero3 (0, 0) _ rfl (setRow_block _ _ _ _ _ _ HG.out) Try.underlying29 rfl info29') rfl ?_
  exact splice_err w _ 80 (below_setRow (rs_below HB.out) (by omega) _)

theorem refSplice_bad0 (pg wd a m : Int) (x : VH) (nd : NodeD) (KA SA : Option Addr) (k kc s sc : Nat) (w : World) (hN : RdN w x.A0 x.c0 x.A1 x.c1 x.A2 x.c2 nd) (hr : right pg wd = true) (hb : branchB pg wd nd = true) (b : a < 0) :
    Calls Try.prog 47 #[vF pg wd, vN x.A0 x.c0 x.A1 x.c1 x.A2 x.c2 nd, .int .i64 a, .int .i64 m, .slice KA k kc, .slice SA s sc] w fun e w' => SplicePost 2 noN w e w' := by
  have HR := Lib.hid hr
  have HBR := Lib.hid hb
  have HN := Lib.hid hN
  have hkk := hN.hk
  clear hr hb hN
  go_enter Try.func47, Try.ntmps47
  go_upto_region 6 with (first
    | (go_at_call 66; refine (refRight_v pg wd _ _ HR.out).mono ?_; rintro e w1 ⟨rfl, hb⟩; have hB1 := rs_first hb; clear hb; obtain ⟨⟨q0, q1⟩, ⟨q2, q3, q4⟩, ⟨q5, q6, q7⟩⟩ := rs_boxes hB1; have HG := Lib.hid (rs_row hB1); have HB := Lib.hid hB1; clear hB1)
    | (go_at_call 87; refine (refBranchK_v pg wd x nd _ (HN.out.below (rs_below HB.out)) _ HBR.out).mono ?_; rintro e w2 ⟨rfl, hb⟩; have hB2 := rs_next HB.out hb; clear hb HG HB q0 q1 q2 q3 q4 q5 q6 q7; obtain ⟨⟨q0, q1⟩, ⟨q2, q3, q4⟩, ⟨q5, q6, q7⟩⟩ := rs_boxes hB2; have HG := Lib.hid (rs_row hB2); have HB := Lib.hid hB2; clear hB2))
  go_wp2_with ((refine wpList_store_row rfl 29 (.tmp 12) (.tmp 70) rfl (w.heap.size + 1 + 1) zero3 rfl rfl 29 _ HG.out info29' rfl (sl3_one _ _ _ _ _ _ _ _ _) ?_))
  refine bodyPost_ret (results_ct rfl _ _ (w.heap.size + 1 + 1) 29 zero3 (0, 0) _ rfl (setRow_block _ _ _ _ _ _ HG.out) Try.underlying29 rfl info29') rfl ?_
  exact splice_err w _ 2 (below_setRow (rs_below HB.out) (by omega) _)

theorem refSplice_bad1 (pg wd a m : Int) (x : VH) (nd : NodeD) (KA SA : Option Addr) (k kc s sc : Nat) (w : World) (hN : RdN w x.A0 x.c0 x.A1 x.c1 x.A2 x.c2 nd) (hr : right pg wd = true) (hb : branchB pg wd nd = true) (g0 : 0 ≤ a) (b : m < 1) :
    Calls Try.prog 47 #[vF pg wd, vN x.A0 x.c0 x.A1 x.c1 x.A2 x.c2 nd, .int .i64 a, .int .i64 m, .slice KA k kc, .slice SA s sc] w fun e w' => SplicePost 2 noN w e w' := by
  have HR := Lib.hid hr
  have HBR := Lib.hid hb
  have HN := Lib.hid hN
  have hkk := hN.hk
  clear hr hb hN
  go_enter Try.func47, Try.ntmps47
  go_upto_region 6 with (first
    | (go_at_call 66; refine (refRight_v pg wd _ _ HR.out).mono ?_; rintro e w1 ⟨rfl, hb⟩; have hB1 := rs_first hb; clear hb; obtain ⟨⟨q0, q1⟩, ⟨q2, q3, q4⟩, ⟨q5, q6, q7⟩⟩ := rs_boxes hB1; have HG := Lib.hid (rs_row hB1); have HB := Lib.hid hB1; clear hB1)
    | (go_at_call 87; refine (refBranchK_v pg wd x nd _ (HN.out.below (rs_below HB.out)) _ HBR.out).mono ?_; rintro e w2 ⟨rfl, hb⟩; have hB2 := rs_next HB.out hb; clear hb HG HB q0 q1 q2 q3 q4 q5 q6 q7; obtain ⟨⟨q0, q1⟩, ⟨q2, q3, q4⟩, ⟨q5, q6, q7⟩⟩ := rs_boxes hB2; have HG := Lib.hid (rs_row hB2); have HB := Lib.hid hB2; clear hB2))
  go_wp2_with ((refine wpList_store_row rfl 29 (.tmp 12) (.tmp 70) rfl (w.heap.size + 1 + 1) zero3 rfl rfl 29 _ HG.out info29' rfl (sl3_one _ _ _ _ _ _ _ _ _) ?_))
  refine bodyPost_ret (results_ct rfl _ _ (w.heap.size + 1 + 1) 29 zero3 (0, 0) _ rfl (setRow_block _ _ _ _ _ _ HG.out) Try.underlying29 rfl info29') rfl ?_
  exact splice_err w _ 2 (below_setRow (rs_below HB.out) (by omega) _)

theorem refSplice_bad2 (pg wd a m : Int) (x : VH) (nd : NodeD) (KA SA : Option Addr) (k kc s sc : Nat) (w : World) (hN : RdN w x.A0 x.c0 x.A1 x.c1 x.A2 x.c2 nd) (hr : right pg wd = true) (hb : branchB pg wd nd = true) (g0 : 0 ≤ a) (g1 : 1 ≤ m) (b : (nd.kids.length : Int) < a) :
    Calls Try.prog 47 #[vF pg wd, vN x.A0 x.c0 x.A1 x.c1 x.A2 x.c2 nd, .int .i64 a, .int .i64 m, .slice KA k kc, .slice SA s sc] w fun e w' => SplicePost 2 noN w e w' := by
  have HR := Lib.hid hr
  have HBR := Lib.hid hb
  have HN := Lib.hid hN
  have hkk := hN.hk
  clear hr hb hN
  go_enter Try.func47, Try.ntmps47
  go_upto_region 6 with (first
    | (go_at_call 66; refine (refRight_v pg wd _ _ HR.out).mono ?_; rintro e w1 ⟨rfl, hb⟩; have hB1 := rs_first hb; clear hb; obtain ⟨⟨q0, q1⟩, ⟨q2, q3, q4⟩, ⟨q5, q6, q7⟩⟩ := rs_boxes hB1; have HG := Lib.hid (rs_row hB1); have HB := Lib.hid hB1; clear hB1)
    | (go_at_call 87; refine (refBranchK_v pg wd x nd _ (HN.out.below (rs_below HB.out)) _ HBR.out).mono ?_; rintro e w2 ⟨rfl, hb⟩; have hB2 := rs_next HB.out hb; clear hb HG HB q0 q1 q2 q3 q4 q5 q6 q7; obtain ⟨⟨q0, q1⟩, ⟨q2, q3, q4⟩, ⟨q5, q6, q7⟩⟩ := rs_boxes hB2; have HG := Lib.hid (rs_row hB2); have HB := Lib.hid hB2; clear hB2))
  go_wp2_with ((refine wpList_store_row rfl 29 (.tmp 12) (.tmp 70) rfl (w.heap.size + 1 + 1) zero3 rfl rfl 29 _ HG.out info29' rfl (sl3_one _ _ _ _ _ _ _ _ _) ?_))
  refine bodyPost_ret (results_ct rfl _ _ (w.heap.size + 1 + 1) 29 zero3 (0, 0) _ rfl (setRow_block _ _ _ _ _ _ HG.out) Try.underlying29 rfl info29') rfl ?_
  exact splice_err w _ 2 (below_setRow (rs_below HB.out) (by omega) _)

theorem refSplice_bad3 (pg wd a m : Int) (x : VH) (nd : NodeD) (KA SA : Option Addr) (k kc s sc : Nat) (w : World) (hN : RdN w x.A0 x.c0 x.A1 x.c1 x.A2 x.c2 nd) (hr : right pg wd = true) (hb : branchB pg wd nd = true) (g0 : 0 ≤ a) (g1 : 1 ≤ m) (g2 : a ≤ (nd.kids.length : Int)) (b : (nd.kids.length : Int) - a < m) :
    Calls Try.prog 47 #[vF pg wd, vN x.A0 x.c0 x.A1 x.c1 x.A2 x.c2 nd, .int .i64 a, .int .i64 m, .slice KA k kc, .slice SA s sc] w fun e w' => SplicePost 2 noN w e w' := by
  have HR := Lib.hid hr
  have HBR := Lib.hid hb
  have HN := Lib.hid hN
  have hkk := hN.hk
  clear hr hb hN
  go_enter Try.func47, Try.ntmps47
  go_upto_region 6 with (first
    | (go_at_call 66; refine (refRight_v pg wd _ _ HR.out).mono ?_; rintro e w1 ⟨rfl, hb⟩; have hB1 := rs_first hb; clear hb; obtain ⟨⟨q0, q1⟩, ⟨q2, q3, q4⟩, ⟨q5, q6, q7⟩⟩ := rs_boxes hB1; have HG := Lib.hid (rs_row hB1); have HB := Lib.hid hB1; clear hB1)
    | (go_at_call 87; refine (refBranchK_v pg wd x nd _ (HN.out.below (rs_below HB.out)) _ HBR.out).mono ?_; rintro e w2 ⟨rfl, hb⟩; have hB2 := rs_next HB.out hb; clear hb HG HB q0 q1 q2 q3 q4 q5 q6 q7; obtain ⟨⟨q0, q1⟩, ⟨q2, q3, q4⟩, ⟨q5, q6, q7⟩⟩ := rs_boxes hB2; have HG := Lib.hid (rs_row hB2); have HB := Lib.hid hB2; clear hB2))
  go_wp2_with ((refine wpList_store_row rfl 29 (.tmp 12) (.tmp 70) rfl (w.heap.size + 1 + 1) zero3 rfl rfl 29 _ HG.out info29' rfl (sl3_one _ _ _ _ _ _ _ _ _) ?_))
  refine bodyPost_ret (results_ct rfl _ _ (w.heap.size + 1 + 1) 29 zero3 (0, 0) _ rfl (setRow_block _ _ _ _ _ _ HG.out) Try.underlying29 rfl info29') rfl ?_
  exact splice_err w _ 2 (below_setRow (rs_below HB.out) (by omega) _)

theorem refSplice_bad4 (pg wd a m : Int) (x : VH) (nd : NodeD) (KA SA : Option Addr) (k kc s sc : Nat) (w : World) (hN : RdN w x.A0 x.c0 x.A1 x.c1 x.A2 x.c2 nd) (hr : right pg wd = true) (hb : branchB pg wd nd = true) (g0 : 0 ≤ a) (g1 : 1 ≤ m) (g2 : a ≤ (nd.kids.length : Int)) (g3 : m ≤ (nd.kids.length : Int) - a) (b : k = 0) :
    Calls Try.prog 47 #[vF pg wd, vN x.A0 x.c0 x.A1 x.c1 x.A2 x.c2 nd, .int .i64 a, .int .i64 m, .slice KA k kc, .slice SA s sc] w fun e w' => SplicePost 2 noN w e w' := by
  have HR := Lib.hid hr
  have HBR := Lib.hid hb
  have HN := Lib.hid hN
  have hkk := hN.hk
  have b0 : (k : Int) < 1 := by omega
  clear hr hb hN b
  go_enter Try.func47, Try.ntmps47
  go_upto_region 6 with (first
    | (go_at_call 66; refine (refRight_v pg wd _ _ HR.out).mono ?_; rintro e w1 ⟨rfl, hb⟩; have hB1 := rs_first hb; clear hb; obtain ⟨⟨q0, q1⟩, ⟨q2, q3, q4⟩, ⟨q5, q6, q7⟩⟩ := rs_boxes hB1; have HG := Lib.hid (rs_row hB1); have HB := Lib.hid hB1; clear hB1)
    | (go_at_call 87; refine (refBranchK_v pg wd x nd _ (HN.out.below (rs_below HB.out)) _ HBR.out).mono ?_; rintro e w2 ⟨rfl, hb⟩; have hB2 := rs_next HB.out hb; clear hb HG HB q0 q1 q2 q3 q4 q5 q6 q7; obtain ⟨⟨q0, q1⟩, ⟨q2, q3, q4⟩, ⟨q5, q6, q7⟩⟩ := rs_boxes hB2; have HG := Lib.hid (rs_row hB2); have HB := Lib.hid hB2; clear hB2))
  go_wp2_with ((refine wpList_store_row rfl 29 (.tmp 12) (.tmp 70) rfl (w.heap.size + 1 + 1) zero3 rfl rfl 29 _ HG.out info29' rfl (sl3_one _ _ _ _ _ _ _ _ _) ?_))
  refine bodyPost_ret (results_ct rfl _ _ (w.heap.size + 1 + 1) 29 zero3 (0, 0) _ rfl (setRow_block _ _ _ _ _ _ HG.out) Try.underlying29 rfl info29') rfl ?_
  exact splice_err w _ 2 (below_setRow (rs_below HB.out) (by omega) _)

theorem refSplice_bad5 (pg wd a m : Int) (x : VH) (nd : NodeD) (KA SA : Option Addr) (k kc s sc : Nat) (w : World) (hN : RdN w x.A0 x.c0 x.A1 x.c1 x.A2 x.c2 nd) (hr : right pg wd = true) (hb : branchB pg wd nd = true) (hk : k * 36 ≤ 140737488355328) (g0 : 0 ≤ a) (g1 : 1 ≤ m) (g2 : a ≤ (nd.kids.length : Int)) (g3 : m ≤ (nd.kids.length : Int) - a) (g4 : 0 < k) (b : (s : Int) ≠ k - 1) :
    Calls Try.prog 47 #[vF pg wd, vN x.A0 x.c0 x.A1 x.c1 x.A2 x.c2 nd, .int .i64 a, .int .i64 m, .slice KA k kc, .slice SA s sc] w fun e w' => SplicePost 2 noN w e w' := by
  have HR := Lib.hid hr
  have HBR := Lib.hid hb
  have HN := Lib.hid hN
  have hkk := hN.hk
  have b0 : 1 ≤ (k : Int) := by omega
  have b2 : ((s : Int) != (k : Int) - 1) = true := by rw [bne_iff_ne]; exact b
  clear hr hb hN b
  go_enter Try.func47, Try.ntmps47
  go_upto_region 6 with (first
    | (go_at_call 66; refine (refRight_v pg wd _ _ HR.out).mono ?_; rintro e w1 ⟨rfl, hb⟩; have hB1 := rs_first hb; clear hb; obtain ⟨⟨q0, q1⟩, ⟨q2, q3, q4⟩, ⟨q5, q6, q7⟩⟩ := rs_boxes hB1; have HG := Lib.hid (rs_row hB1); have HB := Lib.hid hB1; clear hB1)
    | (go_at_call 87; refine (refBranchK_v pg wd x nd _ (HN.out.below (rs_below HB.out)) _ HBR.out).mono ?_; rintro e w2 ⟨rfl, hb⟩; have hB2 := rs_next HB.out hb; clear hb HG HB q0 q1 q2 q3 q4 q5 q6 q7; obtain ⟨⟨q0, q1⟩, ⟨q2, q3, q4⟩, ⟨q5, q6, q7⟩⟩ := rs_boxes hB2; have HG := Lib.hid (rs_row hB2); have HB := Lib.hid hB2; clear hB2))
  go_wp2_with ((refine wpList_store_row rfl 29 (.tmp 12) (.tmp 70) rfl (w.heap.size + 1 + 1) zero3 rfl rfl 29 _ HG.out info29' rfl (sl3_one _ _ _ _ _ _ _ _ _) ?_))
  refine bodyPost_ret (results_ct rfl _ _ (w.heap.size + 1 + 1) 29 zero3 (0, 0) _ rfl (setRow_block _ _ _ _ _ _ HG.out) Try.underlying29 rfl info29') rfl ?_
  exact splice_err w _ 2 (below_setRow (rs_below HB.out) (by omega) _)

theorem refSplice_bad6 (pg wd a m : Int) (x : VH) (nd : NodeD) (KA SA : Option Addr) (k kc s sc : Nat) (w : World) (hN : RdN w x.A0 x.c0 x.A1 x.c1 x.A2 x.c2 nd) (hr : right pg wd = true) (hb : branchB pg wd nd = true) (hk : k * 36 ≤ 140737488355328) (g0 : 0 ≤ a) (g1 : 1 ≤ m) (g2 : a ≤ (nd.kids.length : Int)) (g3 : m ≤ (nd.kids.length : Int) - a) (g4 : 0 < k) (g5 : (s : Int) = k - 1) (b : (nd.kids.length : Int) - m + k < 2) :
    Calls Try.prog 47 #[vF pg wd, vN x.A0 x.c0 x.A1 x.c1 x.A2 x.c2 nd, .int .i64 a, .int .i64 m, .slice KA k kc, .slice SA s sc] w fun e w' => SplicePost 2 noN w e w' := by
  have HR := Lib.hid hr
  have HBR := Lib.hid hb
  have HN := Lib.hid hN
  have hkk := hN.hk
  have b0 : 1 ≤ (k : Int) := by omega
  have b2 : ((s : Int) != (k : Int) - 1) = false := by rw [g5]; simp
  clear hr hb hN g5
  go_enter Try.func47, Try.ntmps47
  go_upto_region 6 with (first
    | (go_at_call 66; refine (refRight_v pg wd _ _ HR.out).mono ?_; rintro e w1 ⟨rfl, hb⟩; have hB1 := rs_first hb; clear hb; obtain ⟨⟨q0, q1⟩, ⟨q2, q3, q4⟩, ⟨q5, q6, q7⟩⟩ := rs_boxes hB1; have HG := Lib.hid (rs_row hB1); have HB := Lib.hid hB1; clear hB1)
    | (go_at_call 87; refine (refBranchK_v pg wd x nd _ (HN.out.below (rs_below HB.out)) _ HBR.out).mono ?_; rintro e w2 ⟨rfl, hb⟩; have hB2 := rs_next HB.out hb; clear hb HG HB q0 q1 q2 q3 q4 q5 q6 q7; obtain ⟨⟨q0, q1⟩, ⟨q2, q3, q4⟩, ⟨q5, q6, q7⟩⟩ := rs_boxes hB2; have HG := Lib.hid (rs_row hB2); have HB := Lib.hid hB2; clear hB2))
  go_wp2_with ((refine wpList_store_row rfl 29 (.tmp 12) (.tmp 70) rfl (w.heap.size + 1 + 1) zero3 rfl rfl 29 _ HG.out info29' rfl (sl3_one _ _ _ _ _ _ _ _ _) ?_))
  refine bodyPost_ret (results_ct rfl _ _ (w.heap.size + 1 + 1) 29 zero3 (0, 0) _ rfl (setRow_block _ _ _ _ _ _ HG.out) Try.underlying29 rfl info29') rfl ?_
  exact splice_err w _ 2 (below_setRow (rs_below HB.out) (by omega) _)

theorem refSplice_bad (pg wd a m : Int) (x : VH) (nd : NodeD) (KA SA : Option Addr) (k kc s sc : Nat) (w : World) (hN : RdN w x.A0 x.c0 x.A1 x.c1 x.A2 x.c2 nd) (hr : right pg wd = true) (hb : branchB pg wd nd = true) (hk : k * 36 ≤ 140737488355328) (h : argBad nd.kids.length a m k s) :
    Calls Try.prog 47 #[vF pg wd, vN x.A0 x.c0 x.A1 x.c1 x.A2 x.c2 nd, .int .i64 a, .int .i64 m, .slice KA k kc, .slice SA s sc] w fun e w' => SplicePost 2 noN w e w' := by
  by_cases g0 : a < 0
  · exact refSplice_bad0 pg wd a m x nd KA SA k kc s sc w hN hr hb  g0
  by_cases g1 : m < 1
  · exact refSplice_bad1 pg wd a m x nd KA SA k kc s sc w hN hr hb (by omega) g1
  by_cases g2 : (nd.kids.length : Int) < a
  · exact refSplice_bad2 pg wd a m x nd KA SA k kc s sc w hN hr hb (by omega) (by omega) g2
  by_cases g3 : (nd.kids.length : Int) - a < m
  · exact refSplice_bad3 pg wd a m x nd KA SA k kc s sc w hN hr hb (by omega) (by omega) (by omega) g3
  by_cases g4 : k = 0
  · exact refSplice_bad4 pg wd a m x nd KA SA k kc s sc w hN hr hb (by omega) (by omega) (by omega) (by omega) g4
  by_cases g5 : (s : Int) ≠ k - 1
  · exact refSplice_bad5 pg wd a m x nd KA SA k kc s sc w hN hr hb hk (by omega) (by omega) (by omega) (by omega) (by omega) g5
  by_cases g6 : (nd.kids.length : Int) - m + k < 2
  · exact refSplice_bad6 pg wd a m x nd KA SA k kc s sc w hN hr hb hk (by omega) (by omega) (by omega) (by omega) (by omega) (by omega) g6
  unfold argBad at h; omega

end Go.Proofs.Ytajkoeodabmgeaa
