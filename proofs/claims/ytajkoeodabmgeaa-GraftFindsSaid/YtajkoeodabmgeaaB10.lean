import Derived.Test.YtajkoeodabmgeaaB9
namespace Go.Proofs.Ytajkoeodabmgeaa
open Go.RowKit
set_option maxHeartbeats 2000000
set_option maxRecDepth 100000
attribute [local go_sem] grow_cell grow_frozen grow_size

theorem RdN.grown2 {w : World} {A0 A1 A2 : Option Addr} {c0 c1 c2 : Nat} {nd : NodeD} {a b c d e : Value} (h : RdN w A0 c0 A1 c1 A2 c2 nd) (x : Ext) :
    RdN (grow ((w.alloc (.cells #[a, b] 24)).alloc (.cells #[c, d, e] 29)) x) A0 c0 A1 c1 A2 c2 nd :=
  (h.below (((Below.refl _ _).alloc (Nat.le_refl _) _).alloc (by simp) _)).below (below_grow _ x)

theorem full_c (pg wd : Int) (A0 A1 A2 : Option Addr) (c0 c1 c2 : Nat) (nd : NodeD) (w : World) (hN : RdN w A0 c0 A1 c1 A2 c2 nd) :
    Calls Try.prog 35 #[vF pg wd, vN A0 c0 A1 c1 A2 c2 nd] w fun e w' => e = .returned (.bool (fullB pg wd nd)) ∧ Below w.heap.size w w' := by
  have HN := Lib.hid hN
  clear hN
  cases hr : right pg wd with
  | false =>
    have hfin : fullB pg wd nd = false := by simp [fullB, checkE, hr]
    have HF := Lib.hid hfin
    have HR := Lib.hid hr
    clear hfin hr
    go_enter Try.func35, Try.ntmps35
    go_wp2
    refine wp_region_grow (by kernel_rfl) (by kernel_rfl) ?_
    repeat (any_goals (first | go_big_quiet_step ((first | (go_at_call 61; exact quiet_below (frame_v pg wd _ _ HR.out)))) | quiet_step ((first | (go_at_call 61; exact quiet_below (frame_v pg wd _ _ HR.out))))))
    refine wpQuiet_nil ?_
    intro w1 hb
    go_wp2
    go_ret
    exact ⟨ret_eq (by rw [HF.out]; rfl), below_aa hb⟩
  | true =>
    have hrs := right_spec hr
    have HR := Lib.hid hr
    clear hr
    by_cases hc : checkE pg wd nd = 0
    · have hfin : fullB pg wd nd = decide (pg - 32 < sizeE pg wd nd) := by simp [fullB, hc]
      have HF := Lib.hid hfin
      have HC := Lib.hid hc
      clear hfin hc
      go_enter Try.func35, Try.ntmps35
      go_wp2
      refine wp_region_grow (by kernel_rfl) (by kernel_rfl) ?_
      repeat (any_goals (first | go_big_quiet_step (((first | (go_at_call 61; exact quiet_below (frame_v pg wd _ _ HR.out)) | (go_at_call 74; exact quiet_below (check_v pg wd A0 A1 A2 c0 c1 c2 nd _ (HN.out.grown2 _) 0 HC.out)) | (go_at_call 40; exact quiet_below (Size_c pg wd A0 A1 A2 c0 c1 c2 nd _ (HN.out.grown2 _))) | (go_at_call 80; exact quiet_below (room_c pg wd _ (by omega) (by omega)))))) | quiet_step (((first | (go_at_call 61; exact quiet_below (frame_v pg wd _ _ HR.out)) | (go_at_call 74; exact quiet_below (check_v pg wd A0 A1 A2 c0 c1 c2 nd _ (HN.out.grown2 _) 0 HC.out)) | (go_at_call 40; exact quiet_below (Size_c pg wd A0 A1 A2 c0 c1 c2 nd _ (HN.out.grown2 _))) | (go_at_call 80; exact quiet_below (room_c pg wd _ (by omega) (by omega))))))))
      refine wpQuiet_nil ?_
      intro w1 hb
      go_wp2
      go_ret
      exact ⟨ret_eq (by rw [HF.out]; rfl), below_aa hb⟩
    · have hfin : fullB pg wd nd = false := by simp [fullB, hc]
      have hne : (checkE pg wd nd == 0) = false := by simp [hc]
      have HF := Lib.hid hfin
      clear hfin hc
      go_enter Try.func35, Try.ntmps35
      go_wp2
      refine wp_region_grow (by kernel_rfl) (by kernel_rfl) ?_
      repeat (any_goals (first | go_big_quiet_step (((first | (go_at_call 61; exact quiet_below (frame_v pg wd _ _ HR.out)) | (go_at_call 74; exact quiet_below (check_c pg wd A0 A1 A2 c0 c1 c2 nd _ (HN.out.grown2 _)))))) | quiet_step (((first | (go_at_call 61; exact quiet_below (frame_v pg wd _ _ HR.out)) | (go_at_call 74; exact quiet_below (check_c pg wd A0 A1 A2 c0 c1 c2 nd _ (HN.out.grown2 _))))))))
      refine wpQuiet_nil ?_
      intro w1 hb
      go_wp2
      go_ret
      exact ⟨ret_eq (by rw [HF.out]; rfl), below_aa hb⟩

theorem thin_c (pg wd : Int) (A0 A1 A2 : Option Addr) (c0 c1 c2 : Nat) (nd : NodeD) (w : World) (hN : RdN w A0 c0 A1 c1 A2 c2 nd) :
    Calls Try.prog 37 #[vF pg wd, vN A0 c0 A1 c1 A2 c2 nd] w fun e w' => e = .returned (.bool (thinB pg wd nd)) ∧ Below w.heap.size w w' := by
  have HN := Lib.hid hN
  clear hN
  cases hr : right pg wd with
  | false =>
    have hfin : thinB pg wd nd = false := by simp [thinB, checkE, hr]
    have HF := Lib.hid hfin
    have HR := Lib.hid hr
    clear hfin hr
    go_enter Try.func37, Try.ntmps37
    go_wp2
    refine wp_region_grow (by kernel_rfl) (by kernel_rfl) ?_
    repeat (any_goals (first | go_big_quiet_step ((first | (go_at_call 61; exact quiet_below (frame_v pg wd _ _ HR.out)))) | quiet_step ((first | (go_at_call 61; exact quiet_below (frame_v pg wd _ _ HR.out))))))
    refine wpQuiet_nil ?_
    intro w1 hb
    go_wp2
    go_ret
    exact ⟨ret_eq (by rw [HF.out]; rfl), below_aa hb⟩
  | true =>
    have hrs := right_spec hr
    have HR := Lib.hid hr
    clear hr
    by_cases hc : checkE pg wd nd = 0
    · have hfin : thinB pg wd nd = decide (sizeE pg wd nd < (pg - 30) / 3) := by simp [thinB, hc]
      have HF := Lib.hid hfin
      have HC := Lib.hid hc
      clear hfin hc
      go_enter Try.func37, Try.ntmps37
      go_wp2
      refine wp_region_grow (by kernel_rfl) (by kernel_rfl) ?_
      repeat (any_goals (first | go_big_quiet_step (((first | (go_at_call 61; exact quiet_below (frame_v pg wd _ _ HR.out)) | (go_at_call 74; exact quiet_below (check_v pg wd A0 A1 A2 c0 c1 c2 nd _ (HN.out.grown2 _) 0 HC.out)) | (go_at_call 40; exact quiet_below (Size_c pg wd A0 A1 A2 c0 c1 c2 nd _ (HN.out.grown2 _))) | (go_at_call 81; exact quiet_below (least_c pg wd _ (by omega) (by omega)))))) | quiet_step (((first | (go_at_call 61; exact quiet_below (frame_v pg wd _ _ HR.out)) | (go_at_call 74; exact quiet_below (check_v pg wd A0 A1 A2 c0 c1 c2 nd _ (HN.out.grown2 _) 0 HC.out)) | (go_at_call 40; exact quiet_below (Size_c pg wd A0 A1 A2 c0 c1 c2 nd _ (HN.out.grown2 _))) | (go_at_call 81; exact quiet_below (least_c pg wd _ (by omega) (by omega))))))))
      refine wpQuiet_nil ?_
      intro w1 hb
      go_wp2
      go_ret
      exact ⟨ret_eq (by rw [HF.out]; rfl), below_aa hb⟩
    · have hfin : thinB pg wd nd = false := by simp [thinB, hc]
      have hne : (checkE pg wd nd == 0) = false := by simp [hc]
      have HF := Lib.hid hfin
      clear hfin hc
      go_enter Try.func37, Try.ntmps37
      go_wp2
      refine wp_region_grow (by kernel_rfl) (by kernel_rfl) ?_
      repeat (any_goals (first | go_big_quiet_step (((first | (go_at_call 61; exact quiet_below (frame_v pg wd _ _ HR.out)) | (go_at_call 74; exact quiet_below (check_c pg wd A0 A1 A2 c0 c1 c2 nd _ (HN.out.grown2 _)))))) | quiet_step (((first | (go_at_call 61; exact quiet_below (frame_v pg wd _ _ HR.out)) | (go_at_call 74; exact quiet_below (check_c pg wd A0 A1 A2 c0 c1 c2 nd _ (HN.out.grown2 _))))))))
      refine wpQuiet_nil ?_
      intro w1 hb
      go_wp2
      go_ret
      exact ⟨ret_eq (by rw [HF.out]; rfl), below_aa hb⟩

end Go.Proofs.Ytajkoeodabmgeaa
