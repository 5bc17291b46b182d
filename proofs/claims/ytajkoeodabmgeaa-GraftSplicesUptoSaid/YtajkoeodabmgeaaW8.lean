import Derived.Test.YtajkoeodabmgeaaZ15
import Derived.Test.YtajkoeodabmgeaaZ7
namespace Go.Proofs.Ytajkoeodabmgeaa
open Go.RowKit
set_option maxHeartbeats 4000000
set_option maxRecDepth 100000
attribute [local go_sem] grow_cell grow_frozen grow_size

theorem split_w (pg wd : Int) (nd : NodeD) (BL : NodeD) (hBL : splitL pg wd nd = BL) (BS : ByteArray) (hBS : splitS pg wd nd = BS) (BR : NodeD) (hBR : splitR pg wd nd = BR) (E : Int) (hE : splitE pg wd nd = E)
    (A0 A1 A2 : Option Addr) (c0 c1 c2 : Nat) (w : World) (hN : RdN w A0 c0 A1 c1 A2 c2 nd) :
    Calls Try.prog 32 #[vF pg wd, vN A0 c0 A1 c1 A2 c2 nd] w fun e w' =>
      ∃ (x y : VH) (mid : Nat), e = .returned (.tuple #[vH x BL BS y BR, .int .i64 E]) ∧ VH.own x w' w.heap.size mid BL ∧ VH.own y w' mid w'.heap.size BR ∧ Below w.heap.size w w' ∧ w.heap.size ≤ mid ∧ mid ≤ w'.heap.size := by
  subst hBL hBS hBR hE
  refine (split_c pg wd A0 A1 A2 c0 c1 c2 nd w hN).mono ?_
  rintro e w' ⟨x, y, mid, he, hx, hy, hb, hm⟩
  have hs := hb.size
  refine ⟨x, y, min mid w'.heap.size, he, ?_, hy.wide (by omega) (Nat.le_refl _), hb, by omega, by omega⟩
  exact { hx with u0 := fun k hk => Nat.lt_min.2 ⟨hx.u0 k hk, own_lt hx.pairs k hk⟩, u1 := fun k hk => Nat.lt_min.2 ⟨hx.u1 k hk, own_lt hx.seps k hk⟩, u2 := fun k hk => Nat.lt_min.2 ⟨hx.u2 k hk, own_lt hx.kids k hk⟩ }
theorem refSplit_w (pg wd : Int) (nd : NodeD) (BL : NodeD) (hBL : splitL pg wd nd = BL) (BS : ByteArray) (hBS : splitS pg wd nd = BS) (BR : NodeD) (hBR : splitR pg wd nd = BR) (E : Int) (hE : splitE pg wd nd = E)
    (A0 A1 A2 : Option Addr) (c0 c1 c2 : Nat) (w : World) (hN : RdN w A0 c0 A1 c1 A2 c2 nd) :
    Calls Try.prog 33 #[vF pg wd, vN A0 c0 A1 c1 A2 c2 nd] w fun e w' =>
      (∃ x y : VH, e = .returned (.tuple #[vH x BL BS y BR, .int .i64 E]) ∧ VH.own x w' w.heap.size w'.heap.size BL ∧ VH.own y w' w.heap.size w'.heap.size BR) ∧ Below w.heap.size w w' := by
  subst hBL hBS hBR hE
  exact refSplit_c pg wd A0 A1 A2 c0 c1 c2 nd w hN
theorem VH.kept {x : VH} {w w' : World} {lo hi : Nat} {nd : NodeD} {S : Nat → Prop} (h : VH.own x w lo hi nd) (hk : Kept S w w') (hs : ∀ k, lo ≤ k → k < hi → ¬ S k) : VH.own x w' lo hi nd := OwN.kept h hk hs
theorem VH.below {x : VH} {w w' : World} {lo hi : Nat} {nd : NodeD} (h : VH.own x w lo hi nd) (hb : Below w.heap.size w w') : VH.own x w' lo hi nd := OwN.below h hb

theorem splits_law (pg wd : Int) (A0 A1 A2 : Option Addr) (c0 c1 c2 : Nat) (nd : NodeD) (w : World) (hN : RdN w A0 c0 A1 c1 A2 c2 nd) (hR : Room 8 nd) :
    Calls Try.prog 7 #[vF pg wd, vN A0 c0 A1 c1 A2 c2 nd] w fun e w' => e = .returned (.bool true) ∧ Below w.heap.size w w' := by
  have HN := Lib.hid hN
  have HR4 : Hid (Room 4 nd) := ⟨by have := hR.p; omega, by have := hR.s; omega, by have := hR.k; omega⟩
  have HR6 : Hid (Room 6 nd) := ⟨by have := hR.p; omega, by have := hR.s; omega, by have := hR.k; omega⟩
  have HRH := Lib.hid (splitRoom (pg := pg) (wd := wd) hR)
  clear hN hR
  cases hg : greatB nd with
  | true =>
    have HG := Lib.hid hg
    clear hg
    go_enter Try.func7, Try.ntmps7
    go_wp2_with (first
      | (go_at_call 29; refine (great_v A0 A1 A2 c0 c1 c2 nd _ HG.out _).mono ?_; rintro e w0 ⟨rfl, hb0⟩)
      | (go_at_call 20; refine (awake_c _).mono ?_; rintro e w8 ⟨rfl, hb8⟩))
    go_ret
    exact ⟨rfl, law2_below (law2_next (hb0.mono (by simp)) hb8)⟩
  | false =>
    have HG := Lib.hid hg
    clear hg
    obtain ⟨L, hL⟩ : ∃ X, splitL pg wd nd = X := ⟨_, rfl⟩
    obtain ⟨s, hs⟩ : ∃ X, splitS pg wd nd = X := ⟨_, rfl⟩
    obtain ⟨R, hRr⟩ : ∃ X, splitR pg wd nd = X := ⟨_, rfl⟩
    obtain ⟨E, hE⟩ : ∃ X, splitE pg wd nd = X := ⟨_, rfl⟩
    have HSP := Lib.hid (split_w pg wd nd L hL s hs R hRr E hE)
    have HREF := Lib.hid (refSplit_w pg wd nd L hL s hs R hRr E hE)
    rw [hL, hRr] at HRH
    clear hL hs hRr hE
    go_enter Try.func7, Try.ntmps7
    go_wp2_with (first
      | (go_at_call 29; go_must (
         refine (great_v A0 A1 A2 c0 c1 c2 nd _ HG.out _).mono ?_; rintro e w0 ⟨rfl, hb0⟩
         have HL0 : Hid (Below (w.heap.size + 1 + 1) (law2W w (.int .i64 pg) (.int .i64 wd) (.slice A0 nd.pairs.length c0) (.slice A1 nd.seps.length c1) (.slice A2 nd.kids.length c2)) w0) := Lib.hid (hb0.mono (by simp))
         clear hb0
         obtain ⟨⟨q0, q1⟩, ⟨q2, q3, q4⟩, _⟩ := two_boxes HL0.out
         have hz := law2_size HL0.out
         have z0 : w.heap.size < w0.heap.size := (by omega)
         have z1 : w.heap.size + 1 < w0.heap.size := (by omega)
         clear hz))
      | (go_at_call 21; go_must (
         refine (lent_c A0 A1 A2 c0 c1 c2 nd _ (HN.out.below (law2_below HL0.out)) HR4.out).mono ?_; rintro e w1 ⟨B0, d0, B1, d1, B2, d2, rfl, hown, hb1⟩
         have HX1 := Lib.hid hown
         have HL1 := Lib.hid (law2_next HL0.out hb1)
         have h01 := hb1.size
         clear hown hb1
         clear q0 q1 q2 q3 q4 z0 z1
         obtain ⟨⟨q0, q1⟩, ⟨q2, q3, q4⟩, _⟩ := two_boxes HL1.out
         have hz := law2_size HL1.out
         have z0 : w.heap.size < w1.heap.size := (by omega)
         have z1 : w.heap.size + 1 < w1.heap.size := (by omega)
         clear hz))
      | (go_at_call 32; skip; (
         refine (HSP.out B0 B1 B2 d0 d1 d2 _ ((HX1.out.rd.short).below ((Below.refl _ _).alloc (Nat.le_refl _) _))).mono ?_; rintro e w2 ⟨x1, y1, mid1, rfl, hx, hy, hb2, hm1, hm2⟩
         have HXA2 := Lib.hid hx
         have HYA2 := Lib.hid hy
         have hg1 := one_row hb2
         have hba := below_a hb2
         have HX2 := Lib.hid (HX1.out.below hba)
         have HL2 := Lib.hid (law2_next HL1.out hba)
         simp only [World.size_alloc] at hm1
         have y1l : w1.heap.size < w2.heap.size := (Array.getElem?_eq_some_iff.1 hg1).1
         have HG1 := Lib.hid hg1
         obtain ⟨⟨p0, p1, p2⟩, _⟩ := box_facts hg1
         clear hx hy hb2 hba hg1 HX1 HL1
         clear q0 q1 q2 q3 q4 z0 z1
         obtain ⟨⟨q0, q1⟩, ⟨q2, q3, q4⟩, _⟩ := two_boxes HL2.out
         have hz := law2_size HL2.out
         have z0 : w.heap.size < w2.heap.size := (by omega)
         have z1 : w.heap.size + 1 < w2.heap.size := (by omega)
         clear hz))
      | (go_at_call 32; go_must (
         refine (HSP.out B0 B1 B2 d0 d1 d2 _ ((HX2.out.rd.short).below ((Below.refl _ _).alloc (Nat.le_refl _) _))).mono ?_; rintro e w3 ⟨x2, y2, mid2, rfl, hx, hy, hb3, hm3, hm4⟩
         have HXB3 := Lib.hid hx
         have HYB3 := Lib.hid hy
         have hg2 := one_row hb3
         have hba := below_a hb3
         have HX3 := Lib.hid (HX2.out.below hba)
         have HL3 := Lib.hid (law2_next HL2.out hba)
         have hg1 := (hba.block _ y1l).trans HG1.out
         have HXA3 := Lib.hid (VH.below HXA2.out hba)
         have HYA3 := Lib.hid (VH.below HYA2.out hba)
         simp only [World.size_alloc] at hm3
         have y2l : w2.heap.size < w3.heap.size := (Array.getElem?_eq_some_iff.1 hg2).1
         clear p0 p1 p2 HG1
         have HG1 := Lib.hid hg1
         have HG2 := Lib.hid hg2
         obtain ⟨⟨p0, p1, p2⟩, _⟩ := box_facts hg1
         have y13 : w1.heap.size < w3.heap.size := (by omega)
         clear hx hy hb3 hba hg1 hg2 HX2 HL2 HXA2 HYA2 HSP
         clear q0 q1 q2 q3 q4 z0 z1
         obtain ⟨⟨q0, q1⟩, ⟨q2, q3, q4⟩, _⟩ := two_boxes HL3.out
         have hz := law2_size HL3.out
         have z0 : w.heap.size < w3.heap.size := (by omega)
         have z1 : w.heap.size + 1 < w3.heap.size := (by omega)
         clear hz))
      | (go_at_call 33; go_must (
         refine (HREF.out A0 A1 A2 c0 c1 c2 _ ((HN.out.below (law2_below HL3.out)).below ((Below.refl _ _).alloc (Nat.le_refl _) _))).mono ?_; rintro e w4 ⟨⟨x3, y3, rfl, hx, hy⟩, hb4⟩
         have HXW4 := Lib.hid hx
         have HYW4 := Lib.hid hy
         have hg3 := one_row hb4
         have hba := below_a hb4
         have HX4 := Lib.hid (HX3.out.below hba)
         have HL4 := Lib.hid (law2_next HL3.out hba)
         have hg1 := (hba.block _ y13).trans HG1.out
         have hg2 := (hba.block _ y2l).trans HG2.out
         have HXA4 := Lib.hid (VH.below HXA3.out hba)
         have HYA4 := Lib.hid (VH.below HYA3.out hba)
         have HXB4 := Lib.hid (VH.below HXB3.out hba)
         have HYB4 := Lib.hid (VH.below HYB3.out hba)
         have y3l : w3.heap.size < w4.heap.size := (Array.getElem?_eq_some_iff.1 hg3).1
         clear p0 p1 p2 HG1 HG2
         have HG1 := Lib.hid hg1
         have HG2 := Lib.hid hg2
         have HG3 := Lib.hid hg3
         obtain ⟨⟨p0, p1, p2⟩, _⟩ := box_facts hg1
         have y14 : w1.heap.size < w4.heap.size := (by omega)
         have y24 : w2.heap.size < w4.heap.size := (by omega)
         clear hx hy hb4 hba hg1 hg2 hg3 HX3 HL3 HXA3 HYA3 HXB3 HYB3 HREF
         clear q0 q1 q2 q3 q4 z0 z1
         obtain ⟨⟨q0, q1⟩, ⟨q2, q3, q4⟩, _⟩ := two_boxes HL4.out
         have hz := law2_size HL4.out
         have z0 : w.heap.size < w4.heap.size := (by omega)
         have z1 : w.heap.size + 1 < w4.heap.size := (by omega)
         clear hz))
      | (go_at_call 24; go_must (
         refine (kept_c A0 A1 A2 B0 B1 B2 c0 c1 c2 d0 d1 d2 nd _ (HX4.out.rd.below ((Below.refl _ _).alloc (Nat.le_refl _) _)) ((HN.out.below (law2_below HL4.out)).below ((Below.refl _ _).alloc (Nat.le_refl _) _))).mono ?_; rintro e w5 ⟨rfl, hb5⟩
         have hg4 := one_row hb5
         have hba := below_a hb5
         have HX5 := Lib.hid (HX4.out.below hba)
         have HL5 := Lib.hid (law2_next HL4.out hba)
         have hg1 := (hba.block _ y14).trans HG1.out
         have hg2 := (hba.block _ y24).trans HG2.out
         have hg3 := (hba.block _ y3l).trans HG3.out
         have HXA5 := Lib.hid (VH.below HXA4.out hba)
         have HYA5 := Lib.hid (VH.below HYA4.out hba)
         have HXB5 := Lib.hid (VH.below HXB4.out hba)
         have HYB5 := Lib.hid (VH.below HYB4.out hba)
         have HXW5 := Lib.hid (VH.below HXW4.out hba)
         have HYW5 := Lib.hid (VH.below HYW4.out hba)
         have y4l : w4.heap.size < w5.heap.size := (Array.getElem?_eq_some_iff.1 hg4).1
         clear p0 p1 p2 HG1 HG2 HG3 q0 q1 q2 q3 q4 z0 z1
         obtain ⟨⟨p0, p1, p2⟩, _⟩ := box_facts hg1
         have HG2 := Lib.hid hg2
         have HG3 := Lib.hid hg3
         have HG4 := Lib.hid hg4
         clear hb5 hba hg1 hg2 hg3 hg4 HX4 HL4 HXA4 HYA4 HXB4 HYB4 HXW4 HYW4
         have y45 : w4.heap.size ≤ w5.heap.size := (by omega)))
      | (go_at_call 25; go_must (
         refine (spoil_c B0 B1 B2 d0 d1 d2 nd _ w0.heap.size w1.heap.size (HX5.out.short (by decide)) HR6.out (by omega)).mono ?_; rintro e w6 ⟨⟨r, rfl⟩, hk6⟩
         have hl0 := law2_size HL0.out
         have HL6 := Lib.hid (HL5.out.trans (hk6.below (B := w.heap.size + 1 + 1) (by omega) (fun k hk h => by omega)))
         have hg2 := (hk6.block w2.heap.size (by omega) (fun h => by omega)).trans HG2.out
         have hg3 := (hk6.block w3.heap.size (by omega) (fun h => by omega)).trans HG3.out
         have hg4 := (hk6.block w4.heap.size (by omega) (fun h => by omega)).trans HG4.out
         have HXA6 := Lib.hid (VH.kept HXA5.out hk6 (fun k h1 h2 h => absurd h.2 (by simp only [World.size_alloc] at h1; omega)))
         have HYA6 := Lib.hid (VH.kept HYA5.out hk6 (fun k h1 h2 h => absurd h.2 (by omega)))
         have HXB6 := Lib.hid (VH.kept HXB5.out hk6 (fun k h1 h2 h => absurd h.2 (by simp only [World.size_alloc] at h1; omega)))
         have HYB6 := Lib.hid (VH.kept HYB5.out hk6 (fun k h1 h2 h => absurd h.2 (by omega)))
         have HXW6 := Lib.hid (VH.kept HXW5.out hk6 (fun k h1 h2 h => absurd h.2 (by simp only [World.size_alloc] at h1; omega)))
         have HYW6 := Lib.hid (VH.kept HYW5.out hk6 (fun k h1 h2 h => absurd h.2 (by simp only [World.size_alloc] at h1; omega)))
         have h56 := hk6.size
         clear p0 p1 p2 HX5 HL5 HXA5 HYA5 HXB5 HYB5 HXW5 HYW5 HG2 HG3 HG4 hk6
         obtain ⟨a0, a1, a2, a3, a4, a5, a6⟩ := box7s hg2
         obtain ⟨b0, b1, b2, b3, b4, b5, b6⟩ := box7s hg3
         obtain ⟨e0, e1, e2, e3, e4, e5, e6⟩ := box7s hg4
         clear hg2 hg3 hg4))
      | (go_at_call 34; go_must (
         refine (halves34_c x1 y1 x2 y2 x3 y3 L R s _ (w1.heap.size + 1) mid1 w2.heap.size (OwN.wide HXA6.out (by simp) (Nat.le_refl _)) HYA6.out HRH.out.1 HRH.out.2 hm1 hm2 (by omega) (fun W h => ⟨OwN.rd (VH.kept HXB6.out h (fun k h1 h2 h => absurd h.2 (by simp only [World.size_alloc] at h1; omega))), OwN.rd (VH.kept HYB6.out h (fun k h1 h2 h => absurd h.2 (by omega)))⟩) (fun W h => ⟨OwN.rd (VH.kept HXW6.out h (fun k h1 h2 h => absurd h.2 (by simp only [World.size_alloc] at h1; omega))), OwN.rd (VH.kept HYW6.out h (fun k h1 h2 h => absurd h.2 (by simp only [World.size_alloc] at h1; omega)))⟩)).mono ?_; rintro e w7 ⟨rfl, hk7⟩
         have HL7 := Lib.hid (HL6.out.trans (hk7.below (B := w.heap.size + 1 + 1) (by have := law2_size HL6.out; omega) (fun k hk h => by omega)))))
      | (go_at_call 20; refine (awake_c _).mono ?_; rintro e w8 ⟨rfl, hb8⟩))
    go_ret
    exact ⟨rfl, law2_below (law2_next HL7.out hb8)⟩

end Go.Proofs.Ytajkoeodabmgeaa
