import Derived.Test.YtajkoeodabmgeaaY11
namespace Go.Proofs.Ytajkoeodabmgeaa
open Go.RowKit
set_option maxHeartbeats 4000000
set_option maxRecDepth 100000
attribute [local go_sem] grow_cell grow_frozen grow_size

theorem borrows_law (pg wd : Int) (x y : VH) (L R : NodeD) (s : ByteArray) (w : World) (h1 : RdH w x L) (h2 : RdH w y R) (hL : Room 8 L) (hR : Room 8 R) (hJ : (greatB L || greatB R) = false → JoinOk L s R) (hM : (greatB L || greatB R) = false → Room 6 (borrowL pg wd L s R) ∧ Room 6 (borrowR pg wd L s R)) :
    Calls Try.prog 16 #[vF pg wd, vH x L s y R] w fun e w' => e = .returned (.bool true) ∧ Below w.heap.size w w' := by
  have H1 := Lib.hid h1
  have H2 := Lib.hid h2
  have HL4 : Hid (Room 4 L) := ⟨by have := hL.p; omega, by have := hL.s; omega, by have := hL.k; omega⟩
  have HR4 : Hid (Room 4 R) := ⟨by have := hR.p; omega, by have := hR.s; omega, by have := hR.k; omega⟩
  have HL6 : Hid (Room 6 L) := ⟨by have := hL.p; omega, by have := hL.s; omega, by have := hL.k; omega⟩
  have HR6 : Hid (Room 6 R) := ⟨by have := hR.p; omega, by have := hR.s; omega, by have := hR.k; omega⟩
  clear h1 h2 hL hR
  obtain ⟨g1, hg1⟩ : ∃ b, greatB L = b := ⟨_, rfl⟩
  obtain ⟨g2, hg2⟩ : ∃ b, greatB R = b := ⟨_, rfl⟩
  have HG1L := Lib.hid hg1
  have HG2R := Lib.hid hg2
  clear hg1 hg2
  by_cases hg : (g1 || g2) = true
  · clear HL4 HR4 HL6 HR6 hJ hM
    cases g1 <;> cases g2 <;> (first | (exact absurd hg (by decide)) | skip)
    all_goals
      clear hg
      go_enter Try.func16, Try.ntmps16
      go_wp2_with (first
        | (go_at_call 29; skip; (refine (great_v x.A0 x.A1 x.A2 x.c0 x.c1 x.c2 L _ HG1L.out _).mono ?_; rintro e w1 ⟨rfl, hb1⟩; have HB1 : Hid (Below (w.heap.size + 1 + 1) (mgW w pg wd x L s y R) w1) := Lib.hid (hb1.mono (by simp)); clear HG1L hb1; obtain ⟨_, rr⟩ := mg_boxes HB1.out; obtain ⟨j0, j1, j2, j3, j4, j5, j6⟩ := box7s rr; clear rr))
        | (go_at_call 29; go_must (refine (great_v y.A0 y.A1 y.A2 y.c0 y.c1 y.c2 R _ HG2R.out _).mono ?_; rintro e w2 ⟨rfl, hb2⟩; have HB1 := Lib.hid (mg_next HB1.out hb2); clear hb2))
        | (go_at_call 20; refine (awake_c _).mono ?_; rintro e w9 ⟨rfl, hb9⟩))
      go_ret
      exact ⟨rfl, mg_below (mg_next HB1.out hb9)⟩
  · obtain ⟨rfl, rfl⟩ : g1 = false ∧ g2 = false := by cases g1 <;> cases g2 <;> simp_all
    clear hg
    replace hJ := hJ (by rw [HG1L.out, HG2R.out]; rfl)
    replace hM := hM (by rw [HG1L.out, HG2R.out]; rfl)
    obtain ⟨BL, hBL⟩ : ∃ X, borrowL pg wd L s R = X := ⟨_, rfl⟩
    obtain ⟨BS, hBS⟩ : ∃ X, borrowS pg wd L s R = X := ⟨_, rfl⟩
    obtain ⟨BR, hBR⟩ : ∃ X, borrowR pg wd L s R = X := ⟨_, rfl⟩
    obtain ⟨E, hE⟩ : ∃ X, borrowE pg wd L s R = X := ⟨_, rfl⟩
    have HMC : Hid (∀ (x y : VH) (w : World), RdH w x L → RdH w y R → Calls Try.prog 52 #[vF pg wd, vH x L s y R] w fun e w' =>
        ∃ (x' y' : VH) (mid : Nat), e = .returned (.tuple #[vH x' BL BS y' BR, .int .i64 E]) ∧ VH.own x' w' w.heap.size mid BL ∧ VH.own y' w' mid w'.heap.size BR ∧ Below w.heap.size w w' ∧ w.heap.size ≤ mid ∧ mid ≤ w'.heap.size) := by
      subst hBL hBS hBR hE; exact Lib.hid fun x y w h h' => borrow_c pg wd x L s y R w h h' hJ
    have HRC : Hid (∀ (x y : VH) (w : World), RdH w x L → RdH w y R → Calls Try.prog 53 #[vF pg wd, vH x L s y R] w fun e w' =>
        ∃ (x' y' : VH), e = .returned (.tuple #[vH x' BL BS y' BR, .int .i64 E]) ∧ VH.own x' w' w.heap.size w'.heap.size BL ∧ VH.own y' w' w.heap.size w'.heap.size BR ∧ Below w.heap.size w w') := by
      subst hBL hBS hBR hE; exact Lib.hid fun x y w h h' => refBorrow_c pg wd x L s y R w h h' hJ
    rw [hBL, hBR] at hM
    have HM := Lib.hid hM
    clear hJ hM hBL hBS hBR hE
    go_enter Try.func16, Try.ntmps16
    go_wp2_with (first
      | (go_at_call 29; skip; (
         refine (great_v x.A0 x.A1 x.A2 x.c0 x.c1 x.c2 L _ HG1L.out _).mono ?_; rintro e w1 ⟨rfl, hb1⟩
         have HBa : Hid (Below (w.heap.size + 1 + 1) (mgW w pg wd x L s y R) w1) := Lib.hid (hb1.mono (by simp))
         clear HG1L hb1
         obtain ⟨⟨s0, s1⟩, rr⟩ := mg_boxes HBa.out
         obtain ⟨j0, j1, j2, j3, j4, j5, j6⟩ := box7s rr
         clear rr))
      | (go_at_call 29; go_must (
         refine (great_v y.A0 y.A1 y.A2 y.c0 y.c1 y.c2 R _ HG2R.out _).mono ?_; rintro e w0 ⟨rfl, hb2⟩
         have HB0 := Lib.hid (mg_next HBa.out hb2)
         clear hb2 HBa HG2R s0 s1 j0 j1 j2 j3 j4 j5 j6
         obtain ⟨⟨s0, s1⟩, rr⟩ := mg_boxes HB0.out
         obtain ⟨j0, j1, j2, j3, j4, j5, j6⟩ := box7s rr
         have z0 := mg_size HB0.out
         have z1 := z0
         clear rr))
      | (go_at_call 51; go_must (
         refine (lentHalves_c x y L R s _ (RdN.below H1.out (mg_below HB0.out)) (RdN.below H2.out (mg_below HB0.out)) HL4.out HR4.out).mono ?_; rintro e w1 ⟨xl, yl, m1, rfl, hx, hy, hb1, hm1, hm2⟩
         have HX1 := Lib.hid hx
         have HY1 := Lib.hid hy
         have HB1 := Lib.hid (mg_next HB0.out hb1)
         have hl0 := mg_size HB0.out
         clear hx hy hb1
         clear s0 s1 j0 j1 j2 j3 j4 j5 j6 z0 z1
         obtain ⟨⟨s0, s1⟩, rr⟩ := mg_boxes HB1.out
         obtain ⟨j0, j1, j2, j3, j4, j5, j6⟩ := box7s rr
         have hz := mg_size HB1.out
         have z0 : w.heap.size < w1.heap.size := (by omega)
         have z1 : w.heap.size + 1 < w1.heap.size := (by omega)
         clear hz rr))
      | (go_at_call 52; skip; (
         refine (HMC.out xl yl _ (RdN.below (OwN.rd (VH.short HX1.out)) ((Below.refl _ _).alloc (Nat.le_refl _) _)) (RdN.below (OwN.rd (VH.short HY1.out)) ((Below.refl _ _).alloc (Nat.le_refl _) _))).mono ?_; rintro e w2 ⟨xa, ya, ma, rfl, hx, hy, hb2, hma1, hma2⟩
         simp only [World.size_alloc] at hma1
         have HA2 := Lib.hid hx
         have HAy2 := Lib.hid hy
         have hg1 := one_row hb2
         have hba := below_a hb2
         have HX2 := Lib.hid (VH.below HX1.out hba)
         have HY2 := Lib.hid (VH.below HY1.out hba)
         have HB2 := Lib.hid (mg_next HB1.out hba)
         have y1 : w1.heap.size < w2.heap.size := (Array.getElem?_eq_some_iff.1 hg1).1
         have HG1 := Lib.hid hg1
         obtain ⟨p0, p1, p2, p3, p4, p5, p6⟩ := box7s hg1
         clear hx hy hb2 hba hg1 HX1 HY1 HB1
         clear s0 s1 j0 j1 j2 j3 j4 j5 j6 z0 z1
         obtain ⟨⟨s0, s1⟩, rr⟩ := mg_boxes HB2.out
         obtain ⟨j0, j1, j2, j3, j4, j5, j6⟩ := box7s rr
         have hz := mg_size HB2.out
         have z0 : w.heap.size < w2.heap.size := (by omega)
         have z1 : w.heap.size + 1 < w2.heap.size := (by omega)
         clear hz rr))
      | (go_at_call 52; go_must (
         refine (HMC.out xl yl _ (RdN.below (OwN.rd (VH.short HX2.out)) ((Below.refl _ _).alloc (Nat.le_refl _) _)) (RdN.below (OwN.rd (VH.short HY2.out)) ((Below.refl _ _).alloc (Nat.le_refl _) _))).mono ?_; rintro e w3 ⟨xb, yb, mb, rfl, hx, hy, hb3, hmb1, hmb2⟩
         simp only [World.size_alloc] at hmb1
         have HBb3 := Lib.hid hx
         have HBy3 := Lib.hid hy
         have hg2 := one_row hb3
         have hba := below_a hb3
         have HX3 := Lib.hid (VH.below HX2.out hba)
         have HY3 := Lib.hid (VH.below HY2.out hba)
         have HA3 := Lib.hid (VH.below HA2.out hba)
         have HAy3 := Lib.hid (VH.below HAy2.out hba)
         have HB3 := Lib.hid (mg_next HB2.out hba)
         have hg1 := (hba.block _ y1).trans HG1.out
         have y2 : w2.heap.size < w3.heap.size := (Array.getElem?_eq_some_iff.1 hg2).1
         have y13 : w1.heap.size < w3.heap.size := (by omega)
         clear HG1
         have HG1 := Lib.hid hg1
         have HG2 := Lib.hid hg2
         clear p0 p1 p2 p3 p4 p5 p6
         obtain ⟨p0, p1, p2, p3, p4, p5, p6⟩ := box7s hg1
         clear hx hy hb3 hba hg1 hg2 HX2 HY2 HA2 HAy2 HB2 HMC
         clear s0 s1 j0 j1 j2 j3 j4 j5 j6 z0 z1
         obtain ⟨⟨s0, s1⟩, rr⟩ := mg_boxes HB3.out
         obtain ⟨j0, j1, j2, j3, j4, j5, j6⟩ := box7s rr
         have hz := mg_size HB3.out
         have z0 : w.heap.size < w3.heap.size := (by omega)
         have z1 : w.heap.size + 1 < w3.heap.size := (by omega)
         clear hz rr))
      | (go_at_call 53; go_must (
         refine (HRC.out x y _ (RdN.below (RdN.below H1.out (mg_below HB3.out)) ((Below.refl _ _).alloc (Nat.le_refl _) _)) (RdN.below (RdN.below H2.out (mg_below HB3.out)) ((Below.refl _ _).alloc (Nat.le_refl _) _))).mono ?_; rintro e w4 ⟨xc, yc, rfl, hx, hy, hb4⟩
         have HC4 := Lib.hid hx
         have HCy4 := Lib.hid hy
         have hg3 := one_row hb4
         have hba := below_a hb4
         have HX4 := Lib.hid (VH.below HX3.out hba)
         have HY4 := Lib.hid (VH.below HY3.out hba)
         have HA4 := Lib.hid (VH.below HA3.out hba)
         have HAy4 := Lib.hid (VH.below HAy3.out hba)
         have HBb4 := Lib.hid (VH.below HBb3.out hba)
         have HBy4 := Lib.hid (VH.below HBy3.out hba)
         have HB4 := Lib.hid (mg_next HB3.out hba)
         have hg1 := (hba.block _ y13).trans HG1.out
         have hg2 := (hba.block _ y2).trans HG2.out
         have y3 : w3.heap.size < w4.heap.size := (Array.getElem?_eq_some_iff.1 hg3).1
         have y14 : w1.heap.size < w4.heap.size := (by omega)
         have y24 : w2.heap.size < w4.heap.size := (by omega)
         clear HG1 HG2
         have HG1 := Lib.hid hg1
         have HG2 := Lib.hid hg2
         have HG3 := Lib.hid hg3
         clear p0 p1 p2 p3 p4 p5 p6
         obtain ⟨p0, p1, p2, p3, p4, p5, p6⟩ := box7s hg1
         clear hx hy hb4 hba hg1 hg2 hg3 HX3 HY3 HA3 HAy3 HBb3 HBy3 HB3 HRC
         clear s0 s1 j0 j1 j2 j3 j4 j5 j6 z0 z1
         obtain ⟨⟨s0, s1⟩, rr⟩ := mg_boxes HB4.out
         obtain ⟨j0, j1, j2, j3, j4, j5, j6⟩ := box7s rr
         have hz := mg_size HB4.out
         have z0 : w.heap.size < w4.heap.size := (by omega)
         have z1 : w.heap.size + 1 < w4.heap.size := (by omega)
         clear hz rr))
      | (go_at_call 54; go_must (
         refine (keptHalves_c xl yl x y L R s _ (RdN.below (OwN.rd HX4.out) ((Below.refl _ _).alloc (Nat.le_refl _) _)) (RdN.below (OwN.rd HY4.out) ((Below.refl _ _).alloc (Nat.le_refl _) _)) (RdN.below (RdN.below H1.out (mg_below HB4.out)) ((Below.refl _ _).alloc (Nat.le_refl _) _)) (RdN.below (RdN.below H2.out (mg_below HB4.out)) ((Below.refl _ _).alloc (Nat.le_refl _) _))).mono ?_; rintro e w5 ⟨rfl, hb5⟩
         have hg4 := one_row hb5
         have hba := below_a hb5
         have HX5 := Lib.hid (VH.below HX4.out hba)
         have HY5 := Lib.hid (VH.below HY4.out hba)
         have HA5 := Lib.hid (VH.below HA4.out hba)
         have HAy5 := Lib.hid (VH.below HAy4.out hba)
         have HBb5 := Lib.hid (VH.below HBb4.out hba)
         have HBy5 := Lib.hid (VH.below HBy4.out hba)
         have HC5 := Lib.hid (VH.below HC4.out hba)
         have HCy5 := Lib.hid (VH.below HCy4.out hba)
         have HB5 := Lib.hid (mg_next HB4.out hba)
         have hg1 := (hba.block _ y14).trans HG1.out
         have hg2 := (hba.block _ y24).trans HG2.out
         have hg3 := (hba.block _ y3).trans HG3.out
         have y4 : w4.heap.size < w5.heap.size := (Array.getElem?_eq_some_iff.1 hg4).1
         clear HG1 HG2 HG3
         have HG1 := Lib.hid hg1
         have HG2 := Lib.hid hg2
         have HG3 := Lib.hid hg3
         have HG4 := Lib.hid hg4
         clear p0 p1 p2 p3 p4 p5 p6
         obtain ⟨p0, p1, p2, p3, p4, p5, p6⟩ := box7s hg1
         clear hb5 hba hg1 hg2 hg3 hg4 HX4 HY4 HA4 HAy4 HBb4 HBy4 HC4 HCy4 HB4
         clear s0 s1 j0 j1 j2 j3 j4 j5 j6 z0 z1))
      | (go_at_call 25; skip; (
         refine (spoil_c xl.A0 xl.A1 xl.A2 xl.c0 xl.c1 xl.c2 L _ w0.heap.size m1 (VH.short HX5.out) HL6.out (by omega)).mono ?_; rintro e w6 ⟨⟨r, rfl⟩, hk6⟩
         have HY6 := Lib.hid (VH.kept HY5.out hk6 (fun k h1 h2 h => absurd h (by omega)))
         have HA6 := Lib.hid (VH.kept HA5.out hk6 (fun k h1 h2 h => absurd h (by (try simp only [World.size_alloc] at h1); omega)))
         have HAy6 := Lib.hid (VH.kept HAy5.out hk6 (fun k h1 h2 h => absurd h (by (try simp only [World.size_alloc] at h1); omega)))
         have HBb6 := Lib.hid (VH.kept HBb5.out hk6 (fun k h1 h2 h => absurd h (by (try simp only [World.size_alloc] at h1); omega)))
         have HBy6 := Lib.hid (VH.kept HBy5.out hk6 (fun k h1 h2 h => absurd h (by (try simp only [World.size_alloc] at h1); omega)))
         have HC6 := Lib.hid (VH.kept HC5.out hk6 (fun k h1 h2 h => absurd h (by (try simp only [World.size_alloc] at h1); omega)))
         have HCy6 := Lib.hid (VH.kept HCy5.out hk6 (fun k h1 h2 h => absurd h (by (try simp only [World.size_alloc] at h1); omega)))
         have HB6 := Lib.hid (HB5.out.trans (hk6.below (B := w.heap.size + 1 + 1) (by omega) (fun k hk h => by omega)))
         have hg1 := (hk6.block w1.heap.size (by omega) (fun h => by omega)).trans HG1.out
         have hg2 := (hk6.block w2.heap.size (by omega) (fun h => by omega)).trans HG2.out
         have hg3 := (hk6.block w3.heap.size (by omega) (fun h => by omega)).trans HG3.out
         have hg4 := (hk6.block w4.heap.size (by omega) (fun h => by omega)).trans HG4.out
         have h56 := hk6.size
         clear HG1 HG2 HG3 HG4
         clear p0 p1 p2 p3 p4 p5 p6
         obtain ⟨p0, p1, p2, p3, p4, p5, p6⟩ := box7s hg1
         have HG2 := Lib.hid hg2
         have HG3 := Lib.hid hg3
         have HG4 := Lib.hid hg4
         clear hk6 hg1 hg2 hg3 hg4 HB5 HX5 HY5 HA5 HAy5 HBb5 HBy5 HC5 HCy5))
      | (go_at_call 25; go_must (
         refine (spoil_c yl.A0 yl.A1 yl.A2 yl.c0 yl.c1 yl.c2 R _ m1 w1.heap.size (VH.short HY6.out) HR6.out (by omega)).mono ?_; rintro e w7 ⟨⟨r', rfl⟩, hk7⟩
         have HA7 := Lib.hid (VH.kept HA6.out hk7 (fun k h1 h2 h => absurd h (by (try simp only [World.size_alloc] at h1); omega)))
         have HAy7 := Lib.hid (VH.kept HAy6.out hk7 (fun k h1 h2 h => absurd h (by (try simp only [World.size_alloc] at h1); omega)))
         have HBb7 := Lib.hid (VH.kept HBb6.out hk7 (fun k h1 h2 h => absurd h (by (try simp only [World.size_alloc] at h1); omega)))
         have HBy7 := Lib.hid (VH.kept HBy6.out hk7 (fun k h1 h2 h => absurd h (by (try simp only [World.size_alloc] at h1); omega)))
         have HC7 := Lib.hid (VH.kept HC6.out hk7 (fun k h1 h2 h => absurd h (by (try simp only [World.size_alloc] at h1); omega)))
         have HCy7 := Lib.hid (VH.kept HCy6.out hk7 (fun k h1 h2 h => absurd h (by (try simp only [World.size_alloc] at h1); omega)))
         have HB7 := Lib.hid (HB6.out.trans (hk7.below (B := w.heap.size + 1 + 1) (by omega) (fun k hk h => by omega)))
         have hg2 := (hk7.block w2.heap.size (by omega) (fun h => by omega)).trans HG2.out
         have hg3 := (hk7.block w3.heap.size (by omega) (fun h => by omega)).trans HG3.out
         have hg4 := (hk7.block w4.heap.size (by omega) (fun h => by omega)).trans HG4.out
         have h67 := hk7.size
         clear HG2 HG3 HG4
         clear p0 p1 p2 p3 p4 p5 p6
         obtain ⟨a0, a1, a2, a3, a4, a5, a6⟩ := box7s hg2
         obtain ⟨b0, b1, b2, b3, b4, b5, b6⟩ := box7s hg3
         obtain ⟨e0, e1, e2, e3, e4, e5, e6⟩ := box7s hg4
         clear hk7 hg2 hg3 hg4 HB6 HY6 HA6 HAy6 HBb6 HBy6 HC6 HCy6))
      | (go_at_call 34; go_must (
         refine (halves34_c xa ya xb yb xc yc BL BR BS _ (w1.heap.size + 1) ma w2.heap.size (OwN.wide HA7.out (by simp) (Nat.le_refl _)) HAy7.out HM.out.1 HM.out.2 hma1 hma2 (by omega) (fun W h => ⟨OwN.rd (VH.kept HBb7.out h (fun k h1 h2 h => absurd h (by (try simp only [World.size_alloc] at h1); omega))), OwN.rd (VH.kept HBy7.out h (fun k h1 h2 h => absurd h (by (try simp only [World.size_alloc] at h1); omega)))⟩) (fun W h => ⟨OwN.rd (VH.kept HC7.out h (fun k h1 h2 h => absurd h (by (try simp only [World.size_alloc] at h1); omega))), OwN.rd (VH.kept HCy7.out h (fun k h1 h2 h => absurd h (by (try simp only [World.size_alloc] at h1); omega)))⟩)).mono ?_; rintro e w8 ⟨rfl, hk8⟩
         have HB8 := Lib.hid (HB7.out.trans (hk8.below (B := w.heap.size + 1 + 1) (by omega) (fun k hk h => by omega)))))
      | (go_at_call 20; refine (awake_c _).mono ?_; rintro e w9 ⟨rfl, hb9⟩))
    go_ret
    exact ⟨rfl, mg_below (mg_next HB8.out hb9)⟩

end Go.Proofs.Ytajkoeodabmgeaa
