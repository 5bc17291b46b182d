import Derived.Test.YtajkoeodabmgeaaM7
import Derived.Test.YtajkoeodabmgeaaJ2
namespace Go.Proofs.Ytajkoeodabmgeaa
open Go.RowKit
set_option maxHeartbeats 2000000
set_option maxRecDepth 100000
attribute [local go_sem] grow_cell grow_frozen grow_size

theorem one_row {w w1 : World} {cs : Array Value} {t : TypeId} (h : Below (w.alloc (.cells cs t)).heap.size (w.alloc (.cells cs t)) w1) : w1.heap[w.heap.size]? = some (.cells cs t (0, 0)) :=
  (h.block _ (by simp)).trans (heap_alloc_new w _)

theorem finds_law (A0 A1 A2 : Option Addr) (c0 c1 c2 : Nat) (nd : NodeD) (key : ByteArray) (w : World) (hN : RdN w A0 c0 A1 c1 A2 c2 nd) (hR : Room 4 nd) :
    Calls Try.prog 11 #[vN A0 c0 A1 c1 A2 c2 nd, .string key] w fun e w' => e = .returned (.bool true) ∧ Below w.heap.size w w' := by
  have HN := Lib.hid hN
  have HR := Lib.hid hR
  clear hN hR
  go_enter Try.func11, Try.ntmps11
  go_wp2_with (first
    | (go_at_call 21; refine (lent_c A0 A1 A2 c0 c1 c2 nd _ (HN.out.below ((Below.refl _ _).alloc (Nat.le_refl _) _)) HR.out).mono ?_; rintro e w1 ⟨B0, d0, B1, d1, B2, d2, rfl, hown, hb1⟩; have HX := Lib.hid (OwN.rd hown); have HW := Lib.hid (below_a hb1); have HP := Lib.hid (one_row hb1); have hlt1 : w.heap.size < w1.heap.size := (by have := hb1.size; simp at this; omega); clear hown hb1)
    | (go_at_call 42; refine (find_c B0 B1 B2 d0 d1 d2 nd key _ (RdN.below HX.out.short ((Below.refl _ _).alloc (Nat.le_refl _) _))).mono ?_; rintro e w2 ⟨rfl, hb2⟩; have HX2 := Lib.hid (HX.out.below (below_a hb2)); have HB2 := Lib.hid (one_row hb2); have HP2 := Lib.hid (((below_a hb2).block _ hlt1).trans HP.out); have HW2 := Lib.hid (HW.out.trans ((below_a hb2).mono HW.out.size)); obtain ⟨⟨q0, q1, q2⟩, _⟩ := box_facts HP2.out; have hlt2 : w1.heap.size < w2.heap.size := (by have := hb2.size; simp at this; omega); clear hb2 HX)
    | (go_at_call 43; refine (refFind_c A0 A1 A2 c0 c1 c2 nd key _ (HN.out.below HW2.out)).mono ?_; rintro e w3 ⟨rfl, hb3⟩; clear q0 q1 q2; have HX3 := Lib.hid (HX2.out.below hb3); have HW3 := Lib.hid (HW2.out.trans (hb3.mono HW2.out.size)); have HN3 := Lib.hid (HN.out.below HW3.out); obtain ⟨⟨q0, q1, q2⟩, _⟩ := box_facts ((hb3.block _ (Nat.lt_trans hlt1 hlt2)).trans HP2.out); obtain ⟨⟨q3, q4, q5⟩, _⟩ := box_facts ((hb3.block _ hlt2).trans HB2.out); have y0 : w.heap.size < w3.heap.size := Nat.lt_of_lt_of_le (Nat.lt_trans hlt1 hlt2) hb3.size; have y1 : w1.heap.size < w3.heap.size := Nat.lt_of_lt_of_le hlt2 hb3.size; clear hb3))
  clear HX2 HW2 HP2 HB2 HP HW hlt1 hlt2
  refine wp_region_grow (by kernel_rfl) (by kernel_rfl) ?_
  repeat (any_goals (first
    | go_big_quiet_step ((first | (go_at_call 44; exact quiet_below (way_c B0 B1 B2 d0 d1 d2 nd key _ (HX3.out.short.below (below_grow _ _)))) | (go_at_call 45; exact quiet_below (refWay_c A0 A1 A2 c0 c1 c2 nd key _ (HN3.out.below (below_grow _ _)))) | (go_at_call 24; exact quiet_below (kept_c A0 A1 A2 B0 B1 B2 c0 c1 c2 d0 d1 d2 nd _ (HX3.out.below (below_grow _ _)) (HN3.out.below (below_grow _ _)))) | (go_at_call 20; exact quiet_below (awake_c _))))
    | quiet_step ((first | (go_at_call 44; exact quiet_below (way_c B0 B1 B2 d0 d1 d2 nd key _ (HX3.out.short.below (below_grow _ _)))) | (go_at_call 45; exact quiet_below (refWay_c A0 A1 A2 c0 c1 c2 nd key _ (HN3.out.below (below_grow _ _)))) | (go_at_call 24; exact quiet_below (kept_c A0 A1 A2 B0 B1 B2 c0 c1 c2 d0 d1 d2 nd _ (HX3.out.below (below_grow _ _)) (HN3.out.below (below_grow _ _)))) | (go_at_call 20; exact quiet_below (awake_c _))))))
  refine wpQuiet_nil ?_
  intro w4 hb4
  go_wp2
  go_ret
  exact ⟨rfl, HW3.out.trans (hb4.mono HW3.out.size)⟩

end Go.Proofs.Ytajkoeodabmgeaa
