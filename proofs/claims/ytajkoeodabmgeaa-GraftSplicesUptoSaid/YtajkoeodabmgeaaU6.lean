import Derived.Test.YtajkoeodabmgeaaZ10
import Derived.Test.YtajkoeodabmgeaaZ9
import Derived.Test.YtajkoeodabmgeaaZ7
namespace Go.Proofs.Ytajkoeodabmgeaa
open Go.RowKit
set_option maxHeartbeats 2000000
set_option maxRecDepth 100000
attribute [local go_sem] grow_cell grow_frozen grow_size

abbrev law2W (w : World) (a b c d e : Value) : World := (w.alloc (.cells #[a, b] 24)).alloc (.cells #[c, d, e] 29)
theorem law2_base {w : World} {a b c d e : Value} : Below w.heap.size w (law2W w a b c d e) :=
  (((Below.refl _ _).alloc (Nat.le_refl _) _).alloc (by simp) _)
theorem law2_size {w w1 : World} {a b c d e : Value} (h : Below (w.heap.size + 1 + 1) (law2W w a b c d e) w1) : w.heap.size + 1 + 1 ≤ w1.heap.size := by
  have := h.size; simpa [law2W] using this
theorem law2_below {w w1 : World} {a b c d e : Value} (h : Below (w.heap.size + 1 + 1) (law2W w a b c d e) w1) : Below w.heap.size w w1 := law2_base.trans (h.mono (by omega))
theorem law2_next {w w1 w2 : World} {a b c d e : Value} (h : Below (w.heap.size + 1 + 1) (law2W w a b c d e) w1) (hb : Below w1.heap.size w1 w2) : Below (w.heap.size + 1 + 1) (law2W w a b c d e) w2 :=
  h.trans (hb.mono (law2_size h))

theorem remR_room {pg wd : Int} {nd : NodeD} {key : ByteArray} (h : Room 8 nd) : Room 6 (remR pg wd nd key) := by
  have h0 : (remN nd key).pairs.length ≤ nd.pairs.length := wo_len _ _
  have h1 := h.p
  unfold remR
  split
  · exact ⟨by omega, by simp [remN], by simp [remN]⟩
  · exact ⟨by simp [noN], by simp [noN], by simp [noN]⟩

theorem removes_law (pg wd : Int) (A0 A1 A2 : Option Addr) (c0 c1 c2 : Nat) (nd : NodeD) (key : ByteArray) (w : World) (hN : RdN w A0 c0 A1 c1 A2 c2 nd) (hR : Room 8 nd) :
    Calls Try.prog 14 #[vF pg wd, vN A0 c0 A1 c1 A2 c2 nd, .string key] w fun e w' => e = .returned (.bool true) ∧ Below w.heap.size w w' := by
  have HN := Lib.hid hN
  have HR : Hid (Room 4 nd) := ⟨by have := hR.p; omega, by have := hR.s; omega, by have := hR.k; omega⟩
  have HR6 : Hid (Room 6 nd) := ⟨by have := hR.p; omega, by have := hR.s; omega, by have := hR.k; omega⟩
  have HRR := Lib.hid (remR_room (pg := pg) (wd := wd) (key := key) hR)
  clear hN hR
  obtain ⟨E, hE⟩ : ∃ E, E = remE pg wd nd := ⟨_, rfl⟩
  obtain ⟨b, hb⟩ : ∃ b, b = remB pg wd nd key := ⟨_, rfl⟩
  obtain ⟨R, hRd⟩ : ∃ R, R = remR pg wd nd key := ⟨_, rfl⟩
  have HPUT : Hid (∀ (A0 A1 A2 : Option Addr) (c0 c1 c2 : Nat) (w : World), RdN w A0 c0 A1 c1 A2 c2 nd → Calls Try.prog 48 #[vF pg wd, vN A0 c0 A1 c1 A2 c2 nd, .string key] w fun e w' =>
      ∃ B0 d0 B1 d1 B2 d2, e = .returned (.tuple #[vN B0 d0 B1 d1 B2 d2 R, .bool b, .int .i64 E]) ∧ OwN w' w.heap.size w'.heap.size B0 d0 B1 d1 B2 d2 R ∧ Below w.heap.size w w') := by
    subst hE hb hRd; exact fun A0 A1 A2 c0 c1 c2 w h => remove_c pg wd A0 A1 A2 c0 c1 c2 nd key w h
  have HREF : Hid (∀ (A0 A1 A2 : Option Addr) (c0 c1 c2 : Nat) (w : World), RdN w A0 c0 A1 c1 A2 c2 nd → Calls Try.prog 49 #[vF pg wd, vN A0 c0 A1 c1 A2 c2 nd, .string key] w fun e w' =>
      ∃ B0 d0 B1 d1 B2 d2, e = .returned (.tuple #[vN B0 d0 B1 d1 B2 d2 R, .bool b, .int .i64 E]) ∧ OwN w' w.heap.size w'.heap.size B0 d0 B1 d1 B2 d2 R ∧ Below w.heap.size w w') := by
    subst hE hb hRd; exact fun A0 A1 A2 c0 c1 c2 w h => refRemove_c pg wd A0 A1 A2 c0 c1 c2 nd key w h
  rw [← hRd] at HRR
  clear hE hb hRd
  go_enter Try.func14, Try.ntmps14
  go_wp2_with (first
    | (go_at_call 21; go_must (
       refine (lent_c A0 A1 A2 c0 c1 c2 nd _ (HN.out.below law2_base) HR.out).mono ?_; rintro e w1 ⟨B0, d0, B1, d1, B2, d2, rfl, hown, hb1⟩
       have HX : Hid (OwN w1 (w.heap.size + 1 + 1) w1.heap.size B0 d0 B1 d1 B2 d2 (longN nd 4)) := hown.wide (by simp) (Nat.le_refl _)
       have hL : Below (w.heap.size + 1 + 1) (law2W w (.int .i64 pg) (.int .i64 wd) (.slice A0 nd.pairs.length c0) (.slice A1 nd.seps.length c1) (.slice A2 nd.kids.length c2)) w1 := hb1.mono (by simp)
       obtain ⟨⟨q0, q1⟩, ⟨q2, q3, q4⟩, _⟩ := two_boxes hL
       have q7 := law2_size hL
       have z0 : w.heap.size < w1.heap.size := (by omega)
       have z1 : w.heap.size + 1 < w1.heap.size := (by omega)
       have HL1 := Lib.hid hL
       clear hown hb1 hL))
    | (go_at_call 48; skip; (
       refine (HPUT.out B0 B1 B2 d0 d1 d2 _ ((HX.out.rd.short).below ((Below.refl _ _).alloc (Nat.le_refl _) _))).mono ?_; rintro e w2 ⟨C0, e0, C1, e1, C2, e2, rfl, hown, hb2⟩
       have HA : Hid (OwN w2 (w1.heap.size + 1) w2.heap.size C0 e0 C1 e1 C2 e2 R) := hown.wide (by simp) (Nat.le_refl _)
       have HX2 := Lib.hid (HX.out.below (below_a hb2))
       have hL := law2_next HL1.out (below_a hb2)
       have hg1 := one_row hb2
       have y1 : w1.heap.size < w2.heap.size := (by have := hb2.size; simp at this; omega)
       have y0 : w.heap.size + 1 + 1 ≤ w1.heap.size := q7
       clear z0 z1
       have z0 : w.heap.size < w2.heap.size := (by omega)
       have z1 : w.heap.size + 1 < w2.heap.size := (by omega)
       clear q0 q1 q2 q3 q4 q7 HX HL1 hown hb2
       obtain ⟨⟨q0, q1⟩, ⟨q2, q3, q4⟩, _⟩ := two_boxes hL
       obtain ⟨⟨p0, p1, p2⟩, _⟩ := box_facts hg1
       have HG1 := Lib.hid hg1
       have HL2 := Lib.hid hL
       clear hL hg1))
    | (go_at_call 48; go_must (
       refine (HPUT.out B0 B1 B2 d0 d1 d2 _ ((HX2.out.rd.short).below ((Below.refl _ _).alloc (Nat.le_refl _) _))).mono ?_; rintro e w3 ⟨D0, f0, D1, f1, D2, f2, rfl, hown, hb3⟩
       have HB : Hid (OwN w3 (w2.heap.size + 1) w3.heap.size D0 f0 D1 f1 D2 f2 R) := hown.wide (by simp) (Nat.le_refl _)
       have HX3 := Lib.hid (HX2.out.below (below_a hb3))
       have HA3 := Lib.hid (HA.out.below (below_a hb3))
       have hL := law2_next HL2.out (below_a hb3)
       have hg1 := ((below_a hb3).block _ y1).trans HG1.out
       have hg2 := one_row hb3
       have y2 : w2.heap.size < w3.heap.size := (by have := hb3.size; simp at this; omega)
       have y12 : w1.heap.size < w3.heap.size := (by omega)
       clear z0 z1
       have z0 : w.heap.size < w3.heap.size := (by omega)
       have z1 : w.heap.size + 1 < w3.heap.size := (by omega)
       clear q0 q1 q2 q3 q4 p0 p1 p2 HX2 HL2 HA HG1 hown hb3
       obtain ⟨⟨q0, q1⟩, ⟨q2, q3, q4⟩, _⟩ := two_boxes hL
       obtain ⟨⟨p0, p1, p2⟩, _⟩ := box_facts hg1
       have HG1 := Lib.hid hg1
       have HG2 := Lib.hid hg2
       have HL3 := Lib.hid hL
       clear hL hg1 hg2))
    | (go_at_call 49; go_must (
       refine (HREF.out A0 A1 A2 c0 c1 c2 _ ((HN.out.below (law2_below HL3.out)).below ((Below.refl _ _).alloc (Nat.le_refl _) _))).mono ?_; rintro e w4 ⟨F0, g0, F1, g1, F2, g2, rfl, hown, hb4⟩
       have HC : Hid (OwN w4 (w3.heap.size + 1) w4.heap.size F0 g0 F1 g1 F2 g2 R) := hown.wide (by simp) (Nat.le_refl _)
       have HX4 := Lib.hid (HX3.out.below (below_a hb4))
       have HA4 := Lib.hid (HA3.out.below (below_a hb4))
       have HB4 := Lib.hid (HB.out.below (below_a hb4))
       have hL := law2_next HL3.out (below_a hb4)
       have hg1 := ((below_a hb4).block _ (by omega)).trans HG1.out
       have hg2 := ((below_a hb4).block _ y2).trans HG2.out
       have hg3 := one_row hb4
       have y3 : w3.heap.size < w4.heap.size := (by have := hb4.size; simp at this; omega)
       have y13 : w1.heap.size < w4.heap.size := (by omega)
       have y23 : w2.heap.size < w4.heap.size := (by omega)
       clear z0 z1
       have z0 : w.heap.size < w4.heap.size := (by omega)
       have z1 : w.heap.size + 1 < w4.heap.size := (by omega)
       clear q0 q1 q2 q3 q4 p0 p1 p2 HX3 HL3 HA3 HB HG1 HG2 hown hb4
       obtain ⟨⟨q0, q1⟩, ⟨q2, q3, q4⟩, _⟩ := two_boxes hL
       obtain ⟨⟨p0, p1, p2⟩, _⟩ := box_facts hg1
       have HG1 := Lib.hid hg1
       have HG2 := Lib.hid hg2
       have HG3 := Lib.hid hg3
       have HL4 := Lib.hid hL
       clear hL hg1 hg2 hg3))
    | (go_at_call 24; go_must (
       refine (kept_c A0 A1 A2 B0 B1 B2 c0 c1 c2 d0 d1 d2 nd _ (HX4.out.rd.below ((Below.refl _ _).alloc (Nat.le_refl _) _)) ((HN.out.below (law2_below HL4.out)).below ((Below.refl _ _).alloc (Nat.le_refl _) _))).mono ?_; rintro e w5 ⟨rfl, hb5⟩
       have HX5 := Lib.hid (HX4.out.below (below_a hb5))
       have HA5 := Lib.hid (HA4.out.below (below_a hb5))
       have HB5 := Lib.hid (HB4.out.below (below_a hb5))
       have HC5 := Lib.hid (HC.out.below (below_a hb5))
       have HL5 := Lib.hid (law2_next HL4.out (below_a hb5))
       have hg1 := ((below_a hb5).block _ y13).trans HG1.out
       have hg2 := ((below_a hb5).block _ y23).trans HG2.out
       have hg3 := ((below_a hb5).block _ y3).trans HG3.out
       have hg4 := one_row hb5
       have y4 : w4.heap.size < w5.heap.size := (by have := hb5.size; simp at this; omega)
       clear q0 q1 q2 q3 q4 p0 p1 p2 HX4 HL4 HA4 HB4 HC HG1 HG2 HG3 hb5 z0 z1
       obtain ⟨⟨p0, p1, p2⟩, _⟩ := box_facts hg1
       have HG2 := Lib.hid hg2
       have HG3 := Lib.hid hg3
       have HG4 := Lib.hid hg4
       clear hg1 hg2 hg3 hg4))
    | (go_at_call 25; go_must (
       refine (spoil_c B0 B1 B2 d0 d1 d2 nd _ (w.heap.size + 1 + 1) w1.heap.size (HX5.out.short (by decide)) HR6.out (by omega)).mono ?_; rintro e w6 ⟨⟨r, rfl⟩, hk6⟩
       have HA6 := Lib.hid (HA5.out.kept hk6 (fun k h1 h2 h => by omega))
       have HB6 := Lib.hid (HB5.out.kept hk6 (fun k h1 h2 h => by omega))
       have HC6 := Lib.hid (HC5.out.kept hk6 (fun k h1 h2 h => by omega))
       have hg2 := (hk6.block w2.heap.size (by omega) (fun h => by omega)).trans HG2.out
       have hg3 := (hk6.block w3.heap.size (by omega) (fun h => by omega)).trans HG3.out
       have hg4 := (hk6.block w4.heap.size (by omega) (fun h => by omega)).trans HG4.out
       have y5 : w4.heap.size < w6.heap.size := Nat.lt_of_lt_of_le y4 hk6.size
       have HL6 := Lib.hid (HL5.out.trans (hk6.below (B := w.heap.size + 1 + 1) (by omega) (fun k hk h => by omega)))
       clear p0 p1 p2 HX5 HA5 HB5 HC5 HL5 HG2 HG3 HG4 hk6
       obtain ⟨⟨p0, p1, p2⟩, _⟩ := box_facts hg2
       obtain ⟨⟨p3, p4, p5⟩, _⟩ := box_facts hg3
       obtain ⟨⟨p6, p7, p8⟩, _⟩ := box_facts hg4
       clear hg2 hg3 hg4))
    | (go_at_call 26; go_must (
       refine (fresh_c C0 C1 C2 D0 D1 D2 F0 F1 F2 e0 e1 e2 f0 f1 f2 g0 g1 g2 R _ (w1.heap.size + 1) w2.heap.size HA6.out HRR.out (by omega) (by omega) (fun W h => (HB6.out.kept h (fun k h1 h2 h => by omega)).rd) (fun W h => (HC6.out.kept h (fun k h1 h2 h => by omega)).rd)).mono ?_; rintro e w7 ⟨rfl, hk7⟩
       have HL7 := Lib.hid (HL6.out.trans (hk7.below (B := w.heap.size + 1 + 1) (by omega) (fun k hk h => by omega)))
       clear HL6 hk7))
    | (go_at_call 20; refine (awake_c _).mono ?_; rintro e w8 ⟨rfl, hb8⟩))
  go_ret
  exact ⟨rfl, law2_below (law2_next HL7.out hb8)⟩

end Go.Proofs.Ytajkoeodabmgeaa
