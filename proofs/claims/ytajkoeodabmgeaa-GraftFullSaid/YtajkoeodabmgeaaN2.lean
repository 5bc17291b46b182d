import Derived.Test.YtajkoeodabmgeaaN1
namespace Go.Proofs.Ytajkoeodabmgeaa
open Go.RowKit
set_option maxHeartbeats 2000000
set_option maxRecDepth 100000
attribute [local go_sem] grow_cell grow_frozen grow_size

theorem thin_none : thinB 1024 32 noN = true := by kernel_rfl
theorem thin_v (pg wd : Int) (A0 A1 A2 : Option Addr) (c0 c1 c2 : Nat) (nd : NodeD) (w : World) (hN : RdN w A0 c0 A1 c1 A2 c2 nd) (b : Bool) (hb : thinB pg wd nd = b) :
    Calls Try.prog 37 #[vF pg wd, vN A0 c0 A1 c1 A2 c2 nd] w fun e w' => e = .returned (.bool b) ∧ Below w.heap.size w w' := by
  subst hb; exact thin_c pg wd A0 A1 A2 c0 c1 c2 nd w hN
theorem rd_none (w : World) : RdN w none 0 none 0 none 0 noN := OwN.rd (own_noN w 0 0)

theorem full_law (pg wd : Int) (A0 A1 A2 : Option Addr) (c0 c1 c2 : Nat) (nd : NodeD) (w : World) (hN : RdN w A0 c0 A1 c1 A2 c2 nd) (hR : Room 4 nd) :
    Calls Try.prog 9 #[vF pg wd, vN A0 c0 A1 c1 A2 c2 nd] w fun e w' => e = .returned (.bool true) ∧ Below w.heap.size w w' := by
  have HN := Lib.hid hN
  have HR := Lib.hid hR
  clear hN hR
  go_enter Try.func9, Try.ntmps9
  go_wp2_with (first
    | (go_at_call 21; refine (lent_c A0 A1 A2 c0 c1 c2 nd _ (HN.out.boxes below_start) HR.out).mono ?_; rintro e w1 ⟨B0, d0, B1, d1, B2, d2, rfl, hown, hb1⟩; have HX := Lib.hid (OwN.rd hown); have hBB := below_first hb1; have HW := Lib.hid (below_aa hb1); obtain ⟨⟨q0, q1⟩, ⟨q2, q3, q4⟩, q5⟩ := two_boxes hBB; clear hown hb1))
  have hlt0 : w.heap.size < w1.heap.size := by omega
  have y1 : w.heap.size < w1.heap.size + 1 := by omega
  have y2 : w.heap.size + 1 < w1.heap.size + 1 := by omega
  have HXs := Lib.hid (HX.out.below ((Below.refl _ _).alloc (Nat.le_refl _) (.cells #[.slice B0 nd.pairs.length d0, .slice B1 nd.seps.length d1, .slice B2 nd.kids.length d2] 29)))
  have HNs := Lib.hid ((HN.out.below HW.out).below ((Below.refl _ _).alloc (Nat.le_refl _) (.cells #[.slice B0 nd.pairs.length d0, .slice B1 nd.seps.length d1, .slice B2 nd.kids.length d2] 29)))
  refine wp_region_grow (by kernel_rfl) (by kernel_rfl) ?_
  repeat (any_goals (first
    | go_big_quiet_step ((first | (go_at_call 35; exact quiet_below (full_c pg wd B0 B1 B2 d0 d1 d2 nd _ (HXs.out.short.below (below_grow _ _)))) | (go_at_call 36; exact quiet_below (refFull_c pg wd A0 A1 A2 c0 c1 c2 nd _ (HNs.out.below (below_grow _ _)))) | (go_at_call 37; exact quiet_below (thin_c pg wd B0 B1 B2 d0 d1 d2 nd _ (HXs.out.short.below (below_grow _ _)))) | (go_at_call 38; exact quiet_below (refThin_c pg wd A0 A1 A2 c0 c1 c2 nd _ (HNs.out.below (below_grow _ _))))))
    | quiet_step ((first | (go_at_call 35; exact quiet_below (full_c pg wd B0 B1 B2 d0 d1 d2 nd _ (HXs.out.short.below (below_grow _ _)))) | (go_at_call 36; exact quiet_below (refFull_c pg wd A0 A1 A2 c0 c1 c2 nd _ (HNs.out.below (below_grow _ _)))) | (go_at_call 37; exact quiet_below (thin_c pg wd B0 B1 B2 d0 d1 d2 nd _ (HXs.out.short.below (below_grow _ _)))) | (go_at_call 38; exact quiet_below (refThin_c pg wd A0 A1 A2 c0 c1 c2 nd _ (HNs.out.below (below_grow _ _)))))))) 
  refine wpQuiet_nil ?_
  intro w2 hb2
  have HX2 := Lib.hid (HXs.out.below hb2)
  have HN2 := Lib.hid (HNs.out.below hb2)
  have HW2 := Lib.hid (HW.out.trans ((below_a hb2).mono HW.out.size))
  have hbb := Lib.hid (below_a hb2)
  obtain ⟨⟨p0, p1, p2⟩, _⟩ := box_facts (one_row hb2)
  obtain ⟨⟨_, _⟩, ⟨p3, p4, p5⟩, _⟩ := two_boxes (hBB.trans (hbb.out.mono (by omega)))
  clear hb2 hbb hBB q0 q1 q2 q3 q4 q5 HX HN HXs HNs HW y1 y2 hlt0
  go_wp2_with (first
    | (go_at_call 24; refine (kept_c A0 A1 A2 B0 B1 B2 c0 c1 c2 d0 d1 d2 nd _ HX2.out HN2.out).mono ?_; rintro e w3 ⟨rfl, hb3⟩)
    | (go_at_call 39; refine (lawFrame_c _).mono ?_; rintro e w4 ⟨rfl, hb4⟩)
    | (go_at_call 37; refine (thin_v 1024 32 none none none 0 0 0 noN _ (rd_none _) _ thin_none).mono ?_; rintro e w5 ⟨rfl, hb5⟩)
    | (go_at_call 20; refine (awake_c _).mono ?_; rintro e w6 ⟨rfl, hb6⟩))
  go_ret
  exact ⟨rfl, HW2.out.trans ((((hb3.trans (hb4.mono hb3.size)).trans (hb5.mono (Nat.le_trans hb3.size hb4.size))).trans (hb6.mono (Nat.le_trans (Nat.le_trans hb3.size hb4.size) hb5.size))).mono HW2.out.size)⟩

end Go.Proofs.Ytajkoeodabmgeaa
