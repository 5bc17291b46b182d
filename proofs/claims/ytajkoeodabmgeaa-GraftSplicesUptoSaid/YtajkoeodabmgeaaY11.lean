import Derived.Test.YtajkoeodabmgeaaY10
namespace Go.Proofs.Ytajkoeodabmgeaa
open Go.RowKit
set_option maxHeartbeats 4000000
set_option maxRecDepth 100000
attribute [local go_sem] grow_cell grow_frozen grow_size

abbrev mgW (w : World) (pg wd : Int) (x : VH) (L : NodeD) (s : ByteArray) (y : VH) (R : NodeD) : World := (w.alloc (.cells #[.int .i64 pg, .int .i64 wd] 24)).alloc (.cells (cells7 x L s y R) 54)
section
variable {w w1 w2 : World} {pg wd : Int} {x y : VH} {L R : NodeD} {s : ByteArray}
theorem mg_base : Below w.heap.size w (mgW w pg wd x L s y R) := ((Below.refl _ _).alloc (Nat.le_refl _) _).alloc (by simp) _
theorem mg_size (h : Below (w.heap.size + 1 + 1) (mgW w pg wd x L s y R) w1) : w.heap.size + 1 + 1 ≤ w1.heap.size := by
  have := h.size; simpa [mgW] using this
theorem mg_next (h : Below (w.heap.size + 1 + 1) (mgW w pg wd x L s y R) w1) (hb : Below w1.heap.size w1 w2) : Below (w.heap.size + 1 + 1) (mgW w pg wd x L s y R) w2 := h.trans (hb.mono (mg_size h))
theorem mg_below (h : Below (w.heap.size + 1 + 1) (mgW w pg wd x L s y R) w1) : Below w.heap.size w w1 := mg_base.trans (h.mono (by omega))
theorem mg_boxes (h : Below (w.heap.size + 1 + 1) (mgW w pg wd x L s y R) w1) :
    (w1.cell? ⟨w.heap.size, 0, none⟩ = some (.int .i64 pg) ∧ w1.cell? ⟨w.heap.size, 1, none⟩ = some (.int .i64 wd)) ∧ w1.heap[w.heap.size + 1]? = some (.cells (cells7 x L s y R) 54 (0, 0)) := by
  have h0 : w1.heap[w.heap.size]? = some (.cells #[.int .i64 pg, .int .i64 wd] 24 (0, 0)) := (h.block _ (by omega)).trans ((Below.heap_alloc _ _ _ (by simp)).trans (heap_alloc_new _ _))
  exact ⟨⟨cell_of_row _ _ 0 _ _ _ h0, cell_of_row _ _ 1 _ _ _ h0⟩, (h.block _ (by omega)).trans (alloc2_at w _ _)⟩
end
theorem VH.short {x : VH} {w : World} {lo hi : Nat} {nd : NodeD} (h : VH.own x w lo hi (longN nd 4)) : VH.own x w lo hi nd := OwN.short h (by decide)

theorem merges_law (pg wd : Int) (x y : VH) (L R : NodeD) (s : ByteArray) (w : World) (h1 : RdH w x L) (h2 : RdH w y R) (hL : Room 8 L) (hR : Room 8 R) (hJ : JoinOk L s R) (hM : Room 6 (mergeR pg wd L s R)) :
    Calls Try.prog 17 #[vF pg wd, vH x L s y R] w fun e w' => e = .returned (.bool true) ∧ Below w.heap.size w w' := by
  have H1 := Lib.hid h1
  have H2 := Lib.hid h2
  have HL4 : Hid (Room 4 L) := ⟨by have := hL.p; omega, by have := hL.s; omega, by have := hL.k; omega⟩
  have HR4 : Hid (Room 4 R) := ⟨by have := hR.p; omega, by have := hR.s; omega, by have := hR.k; omega⟩
  have HL6 : Hid (Room 6 L) := ⟨by have := hL.p; omega, by have := hL.s; omega, by have := hL.k; omega⟩
  have HR6 : Hid (Room 6 R) := ⟨by have := hR.p; omega, by have := hR.s; omega, by have := hR.k; omega⟩
  obtain ⟨M, hMd⟩ : ∃ M, mergeR pg wd L s R = M := ⟨_, rfl⟩
  obtain ⟨E, hEd⟩ : ∃ E, mergeE pg wd L s R = E := ⟨_, rfl⟩
  have HMC : Hid (∀ (x y : VH) (w : World), RdH w x L → RdH w y R → Calls Try.prog 55 #[vF pg wd, vH x L s y R] w fun e w' =>
      ∃ z : VH, e = .returned (.tuple #[vN z.A0 z.c0 z.A1 z.c1 z.A2 z.c2 M, .int .i64 E]) ∧ VH.own z w' w.heap.size w'.heap.size M ∧ Below w.heap.size w w') := by
    subst hMd hEd; exact Lib.hid fun x y w h h' => merge_c pg wd x L s y R w h h' hJ
  have HRC : Hid (∀ (x y : VH) (w : World), RdH w x L → RdH w y R → Calls Try.prog 56 #[vF pg wd, vH x L s y R] w fun e w' =>
      ∃ z : VH, e = .returned (.tuple #[vN z.A0 z.c0 z.A1 z.c1 z.A2 z.c2 M, .int .i64 E]) ∧ VH.own z w' w.heap.size w'.heap.size M ∧ Below w.heap.size w w') := by
    subst hMd hEd; exact Lib.hid fun x y w h h' => refMerge_c pg wd x L s y R w h h' hJ
  rw [hMd] at hM
  have HM := Lib.hid hM
  clear h1 h2 hL hR hJ hM hMd hEd
  go_enter Try.func17, Try.ntmps17
  go_wp2_with (first
    | (go_at_call 51; go_must (
       refine (lentHalves_c x y L R s _ (RdN.below H1.out mg_base) (RdN.below H2.out mg_base) HL4.out HR4.out).mono ?_; rintro e w1 ⟨xl, yl, m1, rfl, hx, hy, hb1, hm1, hm2⟩
       have HX1 := Lib.hid hx
       have HY1 := Lib.hid hy
       have HB1 : Hid (Below (w.heap.size + 1 + 1) (mgW w pg wd x L s y R) w1) := Lib.hid (hb1.mono (by simp))
       have hmm : w.heap.size + 1 + 1 ≤ m1 := (by simpa using hm1)
       clear hx hy hb1 hm1
       obtain ⟨⟨s0, s1⟩, rr⟩ := mg_boxes HB1.out
       obtain ⟨j0, j1, j2, j3, j4, j5, j6⟩ := box7s rr
       have hz := mg_size HB1.out
       have z0 : w.heap.size < w1.heap.size := (by omega)
       have z1 : w.heap.size + 1 < w1.heap.size := (by omega)
       clear hz rr))
    | (go_at_call 55; skip; (
       refine (HMC.out xl yl _ (RdN.below (OwN.rd (VH.short HX1.out)) ((Below.refl _ _).alloc (Nat.le_refl _) _)) (RdN.below (OwN.rd (VH.short HY1.out)) ((Below.refl _ _).alloc (Nat.le_refl _) _))).mono ?_; rintro e w2 ⟨za, rfl, ho, hb2⟩
       have HA2 := Lib.hid ho
       have hg1 := one_row hb2
       have hba := below_a hb2
       have HX2 := Lib.hid (VH.below HX1.out hba)
       have HY2 := Lib.hid (VH.below HY1.out hba)
       have HB2 := Lib.hid (mg_next HB1.out hba)
       have y1 : w1.heap.size < w2.heap.size := (Array.getElem?_eq_some_iff.1 hg1).1
       have HG1 := Lib.hid hg1
       obtain ⟨p0, p1, p2, p3, p4, p5, p6⟩ := box7s hg1
       clear ho hb2 hba hg1 HX1 HY1 HB1
       clear s0 s1 j0 j1 j2 j3 j4 j5 j6 z0 z1
       obtain ⟨⟨s0, s1⟩, rr⟩ := mg_boxes HB2.out
       obtain ⟨j0, j1, j2, j3, j4, j5, j6⟩ := box7s rr
       have hz := mg_size HB2.out
       have z0 : w.heap.size < w2.heap.size := (by omega)
       have z1 : w.heap.size + 1 < w2.heap.size := (by omega)
       clear hz rr))
    | (go_at_call 55; go_must (
       refine (HMC.out xl yl _ (RdN.below (OwN.rd (VH.short HX2.out)) ((Below.refl _ _).alloc (Nat.le_refl _) _)) (RdN.below (OwN.rd (VH.short HY2.out)) ((Below.refl _ _).alloc (Nat.le_refl _) _))).mono ?_; rintro e w3 ⟨zb, rfl, ho, hb3⟩
       have HBb3 := Lib.hid ho
       have hg2 := one_row hb3
       have hba := below_a hb3
       have HX3 := Lib.hid (VH.below HX2.out hba)
       have HY3 := Lib.hid (VH.below HY2.out hba)
       have HA3 := Lib.hid (VH.below HA2.out hba)
       have HB3 := Lib.hid (mg_next HB2.out hba)
       have hg1 := (hba.block _ y1).trans HG1.out
       have y2 : w2.heap.size < w3.heap.size := (Array.getElem?_eq_some_iff.1 hg2).1
       have y13 : w1.heap.size < w3.heap.size := (by omega)
       clear HG1
       have HG1 := Lib.hid hg1
       have HG2 := Lib.hid hg2
       clear p0 p1 p2 p3 p4 p5 p6
       obtain ⟨p0, p1, p2, p3, p4, p5, p6⟩ := box7s hg1
       clear ho hb3 hba hg1 hg2 HX2 HY2 HA2 HB2 HMC
       clear s0 s1 j0 j1 j2 j3 j4 j5 j6 z0 z1
       obtain ⟨⟨s0, s1⟩, rr⟩ := mg_boxes HB3.out
       obtain ⟨j0, j1, j2, j3, j4, j5, j6⟩ := box7s rr
       have hz := mg_size HB3.out
       have z0 : w.heap.size < w3.heap.size := (by omega)
       have z1 : w.heap.size + 1 < w3.heap.size := (by omega)
       clear hz rr))
    | (go_at_call 56; go_must (
       refine (HRC.out x y _ (RdN.below (RdN.below H1.out (mg_below HB3.out)) ((Below.refl _ _).alloc (Nat.le_refl _) _)) (RdN.below (RdN.below H2.out (mg_below HB3.out)) ((Below.refl _ _).alloc (Nat.le_refl _) _))).mono ?_; rintro e w4 ⟨zc, rfl, ho, hb4⟩
       have HC4 := Lib.hid ho
       have hg3 := one_row hb4
       have hba := below_a hb4
       have HX4 := Lib.hid (VH.below HX3.out hba)
       have HY4 := Lib.hid (VH.below HY3.out hba)
       have HA4 := Lib.hid (VH.below HA3.out hba)
       have HBb4 := Lib.hid (VH.below HBb3.out hba)
       have HB4 := Lib.hid (mg_next HB3.out hba)
       have hg1 := (hba.block _ y13).trans HG1.out
       have hg2 := (hba.block _ y2).trans HG2.out
       have y3 : w3.heap.size < w4.heap.size := (Array.getElem?_eq_some_iff.1 hg3).1
       have y14 : w1.heap.size < w4.heap.size := (by omega)
       have y24 : w2.heap.size < w4.heap.size := (by omega)
       clear HG1 HG2
       have HG1 := Lib.hid hg1
       have HG2 := Lib.hid hg2
       have HG3 := Lib.hid hg3
       clear p0 p1 p2 p3 p4 p5 p6
       obtain ⟨p0, p1, p2, p3, p4, p5, p6⟩ := box7s hg1
       clear ho hb4 hba hg1 hg2 hg3 HX3 HY3 HA3 HBb3 HB3 HRC
       clear s0 s1 j0 j1 j2 j3 j4 j5 j6 z0 z1
       obtain ⟨⟨s0, s1⟩, rr⟩ := mg_boxes HB4.out
       obtain ⟨j0, j1, j2, j3, j4, j5, j6⟩ := box7s rr
       have hz := mg_size HB4.out
       have z0 : w.heap.size < w4.heap.size := (by omega)
       have z1 : w.heap.size + 1 < w4.heap.size := (by omega)
       clear hz rr))
    | (go_at_call 54; go_must (
       refine (keptHalves_c xl yl x y L R s _ (RdN.below (OwN.rd HX4.out) ((Below.refl _ _).alloc (Nat.le_refl _) _)) (RdN.below (OwN.rd HY4.out) ((Below.refl _ _).alloc (Nat.le_refl _) _)) (RdN.below (RdN.below H1.out (mg_below HB4.out)) ((Below.refl _ _).alloc (Nat.le_refl _) _)) (RdN.below (RdN.below H2.out (mg_below HB4.out)) ((Below.refl _ _).alloc (Nat.le_refl _) _))).mono ?_; rintro e w5 ⟨rfl, hb5⟩
       have hg4 := one_row hb5
       have hba := below_a hb5
       have HX5 := Lib.hid (VH.below HX4.out hba)
       have HY5 := Lib.hid (VH.below HY4.out hba)
       have HA5 := Lib.hid (VH.below HA4.out hba)
       have HBb5 := Lib.hid (VH.below HBb4.out hba)
       have HC5 := Lib.hid (VH.below HC4.out hba)
       have HB5 := Lib.hid (mg_next HB4.out hba)
       have hg1 := (hba.block _ y14).trans HG1.out
       have hg2 := (hba.block _ y24).trans HG2.out
       have hg3 := (hba.block _ y3).trans HG3.out
       have y4 : w4.heap.size < w5.heap.size := (Array.getElem?_eq_some_iff.1 hg4).1
       clear HG1 HG2 HG3
       have HG1 := Lib.hid hg1
       have HG2 := Lib.hid hg2
       have HG3 := Lib.hid hg3
       have HG4 := Lib.hid hg4
       clear p0 p1 p2 p3 p4 p5 p6
       obtain ⟨p0, p1, p2, p3, p4, p5, p6⟩ := box7s hg1
       clear hb5 hba hg1 hg2 hg3 hg4 HX4 HY4 HA4 HBb4 HC4 HB4
       clear s0 s1 j0 j1 j2 j3 j4 j5 j6 z0 z1))
    | (go_at_call 25; skip; (
       refine (spoil_c xl.A0 xl.A1 xl.A2 xl.c0 xl.c1 xl.c2 L _ (w.heap.size + 1 + 1) m1 (OwN.wide (VH.short HX5.out) (by simp) (Nat.le_refl _)) HL6.out (by omega)).mono ?_; rintro e w6 ⟨⟨r, rfl⟩, hk6⟩
       have HY6 := Lib.hid (VH.kept HY5.out hk6 (fun k h1 h2 h => absurd h (by omega)))
       have HA6 := Lib.hid (VH.kept HA5.out hk6 (fun k h1 h2 h => absurd h (by simp only [World.size_alloc] at h1; omega)))
       have HBb6 := Lib.hid (VH.kept HBb5.out hk6 (fun k h1 h2 h => absurd h (by simp only [World.size_alloc] at h1; omega)))
       have HC6 := Lib.hid (VH.kept HC5.out hk6 (fun k h1 h2 h => absurd h (by simp only [World.size_alloc] at h1; omega)))
       have HB6 := Lib.hid (HB5.out.trans (hk6.below (B := w.heap.size + 1 + 1) (by omega) (fun k hk h => by omega)))
       have hg1 := (hk6.block w1.heap.size (by omega) (fun h => by omega)).trans HG1.out
       have hg2 := (hk6.block w2.heap.size (by omega) (fun h => by omega)).trans HG2.out
       have hg3 := (hk6.block w3.heap.size (by omega) (fun h => by omega)).trans HG3.out
       have hg4 := (hk6.block w4.heap.size (by omega) (fun h => by omega)).trans HG4.out
       have h56 := hk6.size
       clear HG1 HG2 HG3 HG4
       clear p0 p1 p2 p3 p4 p5 p6
       obtain ⟨p0, p1, p2, p3, p4, p5, p6⟩ := box7s hg1
       have HG2 := Lib.hid hg2
       have HG3 := Lib.hid hg3
       have HG4 := Lib.hid hg4
       clear hk6 hg1 hg2 hg3 hg4 HX5 HY5 HA5 HBb5 HC5 HB5))
    | (go_at_call 25; go_must (
       refine (spoil_c yl.A0 yl.A1 yl.A2 yl.c0 yl.c1 yl.c2 R _ m1 w1.heap.size (VH.short HY6.out) HR6.out (by omega)).mono ?_; rintro e w7 ⟨⟨r', rfl⟩, hk7⟩
       have HA7 := Lib.hid (VH.kept HA6.out hk7 (fun k h1 h2 h => absurd h (by simp only [World.size_alloc] at h1; omega)))
       have HBb7 := Lib.hid (VH.kept HBb6.out hk7 (fun k h1 h2 h => absurd h (by simp only [World.size_alloc] at h1; omega)))
       have HC7 := Lib.hid (VH.kept HC6.out hk7 (fun k h1 h2 h => absurd h (by simp only [World.size_alloc] at h1; omega)))
       have HB7 := Lib.hid (HB6.out.trans (hk7.below (B := w.heap.size + 1 + 1) (by omega) (fun k hk h => by omega)))
       have hg2 := (hk7.block w2.heap.size (by omega) (fun h => by omega)).trans HG2.out
       have hg3 := (hk7.block w3.heap.size (by omega) (fun h => by omega)).trans HG3.out
       have hg4 := (hk7.block w4.heap.size (by omega) (fun h => by omega)).trans HG4.out
       have h67 := hk7.size
       clear HG2 HG3 HG4
       clear p0 p1 p2 p3 p4 p5 p6
       obtain ⟨⟨a0, a1, a2⟩, _⟩ := box_facts hg2
       obtain ⟨⟨b0, b1, b2⟩, _⟩ := box_facts hg3
       obtain ⟨⟨e0, e1, e2⟩, _⟩ := box_facts hg4
       clear hk7 hg2 hg3 hg4 HY6 HA6 HBb6 HC6 HB6))
    | (go_at_call 26; go_must (
       refine (fresh_c za.A0 za.A1 za.A2 zb.A0 zb.A1 zb.A2 zc.A0 zc.A1 zc.A2 za.c0 za.c1 za.c2 zb.c0 zb.c1 zb.c2 zc.c0 zc.c1 zc.c2 M _ (w1.heap.size + 1) w2.heap.size (OwN.wide HA7.out (by simp) (Nat.le_refl _)) HM.out (by omega) (by omega) (fun W h => OwN.rd (VH.kept HBb7.out h (fun k h1 h2 h => absurd h (by simp only [World.size_alloc] at h1; omega)))) (fun W h => OwN.rd (VH.kept HC7.out h (fun k h1 h2 h => absurd h (by simp only [World.size_alloc] at h1; omega))))).mono ?_; rintro e w8 ⟨rfl, hk8⟩
       have HB8 := Lib.hid (HB7.out.trans (hk8.below (B := w.heap.size + 1 + 1) (by omega) (fun k hk h => by omega)))))
    | (go_at_call 20; refine (awake_c _).mono ?_; rintro e w9 ⟨rfl, hb9⟩))
  go_ret
  exact ⟨rfl, mg_below (mg_next HB8.out hb9)⟩

end Go.Proofs.Ytajkoeodabmgeaa
