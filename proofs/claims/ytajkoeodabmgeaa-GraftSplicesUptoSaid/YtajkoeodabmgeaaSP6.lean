import Derived.Test.YtajkoeodabmgeaaSP3
import Derived.Test.YtajkoeodabmgeaaSP5
import Derived.Test.YtajkoeodabmgeaaY11
namespace Go.Proofs.Ytajkoeodabmgeaa
open Go.RowKit
set_option maxHeartbeats 4000000
set_option maxRecDepth 100000
attribute [local go_sem] grow_cell grow_frozen grow_size

abbrev cellsSp (pg wd : Int) (x : VH) (nd : NodeD) (a m : Int) (KA SA : Option Addr) (kc sc : Nat) (ks : List KidD) (ss : List ByteArray) : Array Value :=
  #[.int .i64 pg, .int .i64 wd, .slice x.A0 nd.pairs.length x.c0, .slice x.A1 nd.seps.length x.c1, .slice x.A2 nd.kids.length x.c2, .int .i64 a, .int .i64 m, .slice KA ks.length kc, .slice SA ss.length sc]
abbrev splW (w : World) (pg wd : Int) (x : VH) (nd : NodeD) (a m : Int) (KA SA : Option Addr) (kc sc : Nat) (ks : List KidD) (ss : List ByteArray) : World := w.alloc (.cells (cellsSp pg wd x nd a m KA SA kc sc ks ss) 68)
section
variable {w w1 w2 : World} {pg wd a m : Int} {x : VH} {nd : NodeD} {KA SA : Option Addr} {kc sc : Nat} {ks : List KidD} {ss : List ByteArray}
theorem spl_base : Below w.heap.size w (splW w pg wd x nd a m KA SA kc sc ks ss) := (Below.refl _ _).alloc (Nat.le_refl _) _
theorem spl_size (h : Below (w.heap.size + 1) (splW w pg wd x nd a m KA SA kc sc ks ss) w1) : w.heap.size + 1 ≤ w1.heap.size := by
  have := h.size; simpa [splW] using this
theorem spl_next (h : Below (w.heap.size + 1) (splW w pg wd x nd a m KA SA kc sc ks ss) w1) (hb : Below w1.heap.size w1 w2) : Below (w.heap.size + 1) (splW w pg wd x nd a m KA SA kc sc ks ss) w2 := h.trans (hb.mono (spl_size h))
theorem spl_below (h : Below (w.heap.size + 1) (splW w pg wd x nd a m KA SA kc sc ks ss) w1) : Below w.heap.size w w1 := spl_base.trans (h.mono (by omega))
theorem spl_facts (h : Below (w.heap.size + 1) (splW w pg wd x nd a m KA SA kc sc ks ss) w1) :
    w1.cell? ⟨w.heap.size, 0, none⟩ = some (.int .i64 pg) ∧ w1.cell? ⟨w.heap.size, 1, none⟩ = some (.int .i64 wd) ∧ w1.cell? ⟨w.heap.size, 2, none⟩ = some (.slice x.A0 nd.pairs.length x.c0) ∧ w1.cell? ⟨w.heap.size, 3, none⟩ = some (.slice x.A1 nd.seps.length x.c1) ∧ w1.cell? ⟨w.heap.size, 4, none⟩ = some (.slice x.A2 nd.kids.length x.c2) ∧
    w1.cell? ⟨w.heap.size, 5, none⟩ = some (.int .i64 a) ∧ w1.cell? ⟨w.heap.size, 6, none⟩ = some (.int .i64 m) ∧ w1.cell? ⟨w.heap.size, 7, none⟩ = some (.slice KA ks.length kc) ∧ w1.cell? ⟨w.heap.size, 8, none⟩ = some (.slice SA ss.length sc) ∧ w.heap.size < w1.heap.size := by
  have h0 : w1.heap[w.heap.size]? = some (.cells (cellsSp pg wd x nd a m KA SA kc sc ks ss) 68 (0, 0)) := (h.block _ (by omega)).trans (heap_alloc_new _ _)
  have hs := spl_size h
  exact ⟨cell_of_row _ _ 0 _ _ _ h0, cell_of_row _ _ 1 _ _ _ h0, cell_of_row _ _ 2 _ _ _ h0, cell_of_row _ _ 3 _ _ _ h0, cell_of_row _ _ 4 _ _ _ h0, cell_of_row _ _ 5 _ _ _ h0, cell_of_row _ _ 6 _ _ _ h0, cell_of_row _ _ 7 _ _ _ h0, cell_of_row _ _ 8 _ _ _ h0, by omega⟩
end

theorem room_less {k j : Nat} {nd : NodeD} (h : Room k nd) (hj : j ≤ k) : Room j nd :=
  ⟨Nat.le_trans (Nat.mul_le_mul_right _ (by omega)) h.p, Nat.le_trans (Nat.mul_le_mul_right _ (by omega)) h.s, Nat.le_trans (Nat.mul_le_mul_right _ (by omega)) h.k⟩

theorem splices_law (pg wd a m : Int) (x : VH) (nd : NodeD) (KA SA : Option Addr) (kc sc : Nat) (ks : List KidD) (ss : List ByteArray) (w : World) (h1 : RdH w x nd) (h2 : RdN w none 0 SA sc KA kc ⟨[], ss, ks⟩) (hL : Room 8 nd) (hR : Room 8 ⟨[], ss, ks⟩)
    (hkl : (nd.kids.length + ks.length) * 36 ≤ 140737488355328) (hsl : (nd.seps.length + ss.length) * 16 ≤ 140737488355328) (hM : Room 6 (spliceR pg wd nd a m ks ss)) :
    Calls Try.prog 13 #[.agg (cellsSp pg wd x nd a m KA SA kc sc ks ss)] w fun e w' => e = .returned (.bool true) ∧ Below w.heap.size w w' := by
  have kk := h2.kk
  have sk := h2.sk
  have H1 := Lib.hid h1
  have H2 := Lib.hid h2
  have HL4 := Lib.hid (room_less (j := 4) hL (by decide))
  have HR4 := Lib.hid (room_less (j := 4) hR (by decide))
  have HL6 := Lib.hid (room_less (j := 6) hL (by decide))
  have HR6 := Lib.hid (room_less (j := 6) hR (by decide))
  obtain ⟨M, hMd⟩ : ∃ M, spliceR pg wd nd a m ks ss = M := ⟨_, rfl⟩
  obtain ⟨E, hEd⟩ : ∃ E, spliceE pg wd nd a m ks ss = E := ⟨_, rfl⟩
  have HMC : Hid (∀ (x : VH) (KA SA : Option Addr) (kc sc : Nat) (w : World), RdH w x nd → Rd w 33 KA ks.length (kcells ks) → Rd w 1 SA ss.length (scells ss) → Calls Try.prog 46 #[vF pg wd, vN x.A0 x.c0 x.A1 x.c1 x.A2 x.c2 nd, .int .i64 a, .int .i64 m, .slice KA ks.length kc, .slice SA ss.length sc] w fun e w' =>
      ∃ z : VH, e = .returned (.tuple #[vN z.A0 z.c0 z.A1 z.c1 z.A2 z.c2 M, .int .i64 E]) ∧ VH.own z w' w.heap.size w'.heap.size M ∧ Below w.heap.size w w') := by
    subst hMd hEd; exact Lib.hid fun x KA SA kc sc w h h' h'' => splice_c pg wd a m x nd KA SA kc sc ks ss w h h' h'' kk sk hkl hsl
  have HRC : Hid (∀ (x : VH) (KA SA : Option Addr) (kc sc : Nat) (w : World), RdH w x nd → Rd w 33 KA ks.length (kcells ks) → Rd w 1 SA ss.length (scells ss) → Calls Try.prog 47 #[vF pg wd, vN x.A0 x.c0 x.A1 x.c1 x.A2 x.c2 nd, .int .i64 a, .int .i64 m, .slice KA ks.length kc, .slice SA ss.length sc] w fun e w' =>
      ∃ z : VH, e = .returned (.tuple #[vN z.A0 z.c0 z.A1 z.c1 z.A2 z.c2 M, .int .i64 E]) ∧ VH.own z w' w.heap.size w'.heap.size M ∧ Below w.heap.size w w') := by
    subst hMd hEd; exact Lib.hid fun x KA SA kc sc w h h' h'' => refSplice_c pg wd a m x nd KA SA kc sc ks ss w h h' h'' kk sk hkl hsl
  rw [hMd] at hM
  have HM := Lib.hid hM
  clear h1 h2 hL hR hkl hsl kk sk hM hMd hEd
  go_enter Try.func13, Try.ntmps13
  go_wp2_with (first
    | (go_at_call 21; skip; (
       refine (lent_c x.A0 x.A1 x.A2 x.c0 x.c1 x.c2 nd _ (RdN.below H1.out spl_base) HL4.out).mono ?_; rintro e w1 ⟨B0, d0, B1, d1, B2, d2, rfl, hown, hb1⟩
       have HL1 : Hid (Below (w.heap.size + 1) (splW w pg wd x nd a m KA SA kc sc ks ss) w1) := Lib.hid (hb1.mono (by simp))
       have HX1 : Hid (OwN w1 (w.heap.size + 1) w1.heap.size B0 d0 B1 d1 B2 d2 (longN nd 4)) := Lib.hid (hown.wide (by simp) (Nat.le_refl _))
       have hs1 := spl_size HL1.out
       clear hown hb1 HL4
       obtain ⟨q0, q1, q2, q3, q4, q5, q6, q7, q8, z0⟩ := spl_facts HL1.out))
    | (go_at_call 21; go_must (
       refine (lent_c none SA KA 0 sc kc ⟨[], ss, ks⟩ _ (RdN.below (RdN.below H2.out (spl_below HL1.out)) ((Below.refl _ _).alloc (Nat.le_refl _) _)) HR4.out).mono ?_; rintro e w2 ⟨C0, f0, C1, f1, C2, f2, rfl, hown, hb2⟩
       have hg1 := one_row hb2
       have hba := below_a hb2
       have HX2 := Lib.hid (OwN.below HX1.out hba)
       have HL2 := Lib.hid (spl_next HL1.out hba)
       have HY2 : Hid (OwN w2 (w1.heap.size + 1) w2.heap.size C0 f0 C1 f1 C2 f2 (longN ⟨[], ss, ks⟩ 4)) := Lib.hid (hown.wide (by simp) (Nat.le_refl _))
       have y1 : w1.heap.size < w2.heap.size := (Array.getElem?_eq_some_iff.1 hg1).1
       have HG1 := Lib.hid hg1
       obtain ⟨⟨x0, x1, x2⟩, _⟩ := box_facts hg1
       clear hown hb2 hba hg1 HX1 HL1 HR4 q0 q1 q2 q3 q4 q5 q6 q7 q8 z0
       obtain ⟨q0, q1, q2, q3, q4, q5, q6, q7, q8, z0⟩ := spl_facts HL2.out))
    | (go_at_call 46; skip; (
       refine (HMC.out ⟨B0, d0, B1, d1, B2, d2⟩ C2 C1 f2 f1 _ (RdN.below (OwN.rd (OwN.short HX2.out (by decide))) ((Below.refl _ _).alloc (Nat.le_refl _) _)) (RdN.below (OwN.rd (OwN.short HY2.out (by decide))) ((Below.refl _ _).alloc (Nat.le_refl _) _)).kids (RdN.below (OwN.rd (OwN.short HY2.out (by decide))) ((Below.refl _ _).alloc (Nat.le_refl _) _)).seps).mono ?_; rintro e w3 ⟨za, rfl, ho, hb3⟩
       have HA3 : Hid (VH.own za w3 (w2.heap.size + 1) w3.heap.size M) := Lib.hid (OwN.wide ho (by simp) (Nat.le_refl _))
       have hg2 := one_row hb3
       have hba := below_a hb3
       have HX3 := Lib.hid (OwN.below HX2.out hba)
       have HY3 := Lib.hid (OwN.below HY2.out hba)
       have HL3 := Lib.hid (spl_next HL2.out hba)
       have hg1 := (hba.block _ y1).trans HG1.out
       have y2 : w2.heap.size < w3.heap.size := (Array.getElem?_eq_some_iff.1 hg2).1
       have y13 : w1.heap.size < w3.heap.size := (by omega)
       clear HG1 x0 x1 x2
       have HG1 := Lib.hid hg1
       have HG2 := Lib.hid hg2
       obtain ⟨⟨x0, x1, x2⟩, _⟩ := box_facts hg1
       obtain ⟨⟨v0, v1, v2⟩, _⟩ := box_facts hg2
       clear ho hb3 hba hg1 hg2 HX2 HY2 HL2 q0 q1 q2 q3 q4 q5 q6 q7 q8 z0
       obtain ⟨q0, q1, q2, q3, q4, q5, q6, q7, q8, z0⟩ := spl_facts HL3.out))
    | (go_at_call 46; go_must (
       refine (HMC.out ⟨B0, d0, B1, d1, B2, d2⟩ C2 C1 f2 f1 _ (RdN.below (OwN.rd (OwN.short HX3.out (by decide))) ((Below.refl _ _).alloc (Nat.le_refl _) _)) (RdN.below (OwN.rd (OwN.short HY3.out (by decide))) ((Below.refl _ _).alloc (Nat.le_refl _) _)).kids (RdN.below (OwN.rd (OwN.short HY3.out (by decide))) ((Below.refl _ _).alloc (Nat.le_refl _) _)).seps).mono ?_; rintro e w4 ⟨zb, rfl, ho, hb4⟩
       have HB4 : Hid (VH.own zb w4 (w3.heap.size + 1) w4.heap.size M) := Lib.hid (OwN.wide ho (by simp) (Nat.le_refl _))
       have hg3 := one_row hb4
       have hba := below_a hb4
       have HX4 := Lib.hid (OwN.below HX3.out hba)
       have HY4 := Lib.hid (OwN.below HY3.out hba)
       have HA4 := Lib.hid (VH.below HA3.out hba)
       have HL4 := Lib.hid (spl_next HL3.out hba)
       have hg1 := (hba.block _ y13).trans HG1.out
       have hg2 := (hba.block _ y2).trans HG2.out
       have y3 : w3.heap.size < w4.heap.size := (Array.getElem?_eq_some_iff.1 hg3).1
       have y14 : w1.heap.size < w4.heap.size := (by omega)
       have y24 : w2.heap.size < w4.heap.size := (by omega)
       clear HG1 HG2 x0 x1 x2 v0 v1 v2
       have HG1 := Lib.hid hg1
       have HG2 := Lib.hid hg2
       have HG3 := Lib.hid hg3
       obtain ⟨⟨x0, x1, x2⟩, _⟩ := box_facts hg1
       obtain ⟨⟨v0, v1, v2⟩, _⟩ := box_facts hg2
       clear ho hb4 hba hg1 hg2 hg3 HX3 HY3 HA3 HL3 HMC q0 q1 q2 q3 q4 q5 q6 q7 q8 z0
       obtain ⟨q0, q1, q2, q3, q4, q5, q6, q7, q8, z0⟩ := spl_facts HL4.out))
    | (go_at_call 47; go_must (
       refine (HRC.out x KA SA kc sc _ (RdN.below (RdN.below H1.out (spl_below HL4.out)) ((Below.refl _ _).alloc (Nat.le_refl _) _)) (RdN.below (RdN.below H2.out (spl_below HL4.out)) ((Below.refl _ _).alloc (Nat.le_refl _) _)).kids (RdN.below (RdN.below H2.out (spl_below HL4.out)) ((Below.refl _ _).alloc (Nat.le_refl _) _)).seps).mono ?_; rintro e w5 ⟨zc, rfl, ho, hb5⟩
       have HC5 : Hid (VH.own zc w5 (w4.heap.size + 1) w5.heap.size M) := Lib.hid (OwN.wide ho (by simp) (Nat.le_refl _))
       have hg4 := one_row hb5
       have hba := below_a hb5
       have HX5 := Lib.hid (OwN.below HX4.out hba)
       have HY5 := Lib.hid (OwN.below HY4.out hba)
       have HA5 := Lib.hid (VH.below HA4.out hba)
       have HB5 := Lib.hid (VH.below HB4.out hba)
       have HL5 := Lib.hid (spl_next HL4.out hba)
       have hg1 := (hba.block _ y14).trans HG1.out
       have hg2 := (hba.block _ y24).trans HG2.out
       have hg3 := (hba.block _ y3).trans HG3.out
       have y4 : w4.heap.size < w5.heap.size := (Array.getElem?_eq_some_iff.1 hg4).1
       have y15 : w1.heap.size < w5.heap.size := (by omega)
       have y25 : w2.heap.size < w5.heap.size := (by omega)
       have y35 : w3.heap.size < w5.heap.size := (by omega)
       clear HG1 HG2 HG3 x0 x1 x2 v0 v1 v2
       have HG1 := Lib.hid hg1
       have HG2 := Lib.hid hg2
       have HG3 := Lib.hid hg3
       have HG4 := Lib.hid hg4
       obtain ⟨⟨x0, x1, x2⟩, _⟩ := box_facts hg1
       obtain ⟨⟨v0, v1, v2⟩, _⟩ := box_facts hg2
       clear ho hb5 hba hg1 hg2 hg3 hg4 HX4 HY4 HA4 HB4 HL4 HRC q0 q1 q2 q3 q4 q5 q6 q7 q8 z0
       obtain ⟨q0, q1, q2, q3, q4, q5, q6, q7, q8, z0⟩ := spl_facts HL5.out))
    | (go_at_call 24; skip; (
       refine (kept_c x.A0 x.A1 x.A2 B0 B1 B2 x.c0 x.c1 x.c2 d0 d1 d2 nd _ (RdN.below (OwN.rd HX5.out) ((Below.refl _ _).alloc (Nat.le_refl _) _)) (RdN.below (RdN.below H1.out (spl_below HL5.out)) ((Below.refl _ _).alloc (Nat.le_refl _) _))).mono ?_; rintro e w6 ⟨rfl, hb6⟩
       have hg5 := one_row hb6
       have hba := below_a hb6
       have HX6 := Lib.hid (OwN.below HX5.out hba)
       have HY6 := Lib.hid (OwN.below HY5.out hba)
       have HA6 := Lib.hid (VH.below HA5.out hba)
       have HB6 := Lib.hid (VH.below HB5.out hba)
       have HC6 := Lib.hid (VH.below HC5.out hba)
       have HL6x := Lib.hid (spl_next HL5.out hba)
       have hg1 := (hba.block _ y15).trans HG1.out
       have hg2 := (hba.block _ y25).trans HG2.out
       have hg3 := (hba.block _ y35).trans HG3.out
       have hg4 := (hba.block _ y4).trans HG4.out
       have y5 : w5.heap.size < w6.heap.size := (Array.getElem?_eq_some_iff.1 hg5).1
       clear HG1 HG2 HG3 HG4 x0 x1 x2 v0 v1 v2
       have HG1 := Lib.hid hg1
       have HG2 := Lib.hid hg2
       have HG3 := Lib.hid hg3
       have HG4 := Lib.hid hg4
       have HG5 := Lib.hid hg5
       obtain ⟨⟨x0, x1, x2⟩, _⟩ := box_facts hg1
       obtain ⟨⟨v0, v1, v2⟩, _⟩ := box_facts hg2
       clear hb6 hba hg1 hg2 hg3 hg4 hg5 HX5 HY5 HA5 HB5 HC5 HL5 q0 q1 q2 q3 q4 q5 q6 q7 q8 z0
       obtain ⟨q0, q1, q2, q3, q4, q5, q6, q7, q8, z0⟩ := spl_facts HL6x.out))
    | (go_at_call 24; go_must (
       refine (kept_c none SA KA C0 C1 C2 0 sc kc f0 f1 f2 ⟨[], ss, ks⟩ _ (OwN.rd HY6.out) (RdN.below H2.out (spl_below HL6x.out))).mono ?_; rintro e w7 ⟨rfl, hba⟩
       have HX7 := Lib.hid (OwN.below HX6.out hba)
       have HY7 := Lib.hid (OwN.below HY6.out hba)
       have HA7 := Lib.hid (VH.below HA6.out hba)
       have HB7 := Lib.hid (VH.below HB6.out hba)
       have HC7 := Lib.hid (VH.below HC6.out hba)
       have HL7 := Lib.hid (spl_next HL6x.out hba)
       have h67 := hba.size
       have hg1 := (hba.block w1.heap.size (by omega)).trans HG1.out
       have hg2 := (hba.block w2.heap.size (by omega)).trans HG2.out
       have hg3 := (hba.block w3.heap.size (by omega)).trans HG3.out
       have hg4 := (hba.block w4.heap.size (by omega)).trans HG4.out
       have hg5 := (hba.block w5.heap.size (by omega)).trans HG5.out
       clear HG1 HG2 HG3 HG4 HG5 x0 x1 x2 v0 v1 v2
       have HG2 := Lib.hid hg2
       have HG3 := Lib.hid hg3
       have HG4 := Lib.hid hg4
       have HG5 := Lib.hid hg5
       obtain ⟨⟨x0, x1, x2⟩, _⟩ := box_facts hg1
       obtain ⟨⟨v0, v1, v2⟩, _⟩ := box_facts hg2
       clear hba hg1 hg2 hg3 hg4 hg5 HX6 HY6 HA6 HB6 HC6 HL6x q0 q1 q2 q3 q4 q5 q6 q7 q8 z0))
    | (go_at_call 25; skip; (
       refine (spoil_c B0 B1 B2 d0 d1 d2 nd _ (w.heap.size + 1) w1.heap.size (OwN.short HX7.out (by decide)) HL6.out (by omega)).mono ?_; rintro e w8 ⟨⟨r, rfl⟩, hk8⟩
       have HY8 := Lib.hid (OwN.kept HY7.out hk8 (fun k h1 h2 h => absurd h (by omega)))
       have HA8 := Lib.hid (VH.kept HA7.out hk8 (fun k h1 h2 h => absurd h (by omega)))
       have HB8 := Lib.hid (VH.kept HB7.out hk8 (fun k h1 h2 h => absurd h (by omega)))
       have HC8 := Lib.hid (VH.kept HC7.out hk8 (fun k h1 h2 h => absurd h (by omega)))
       have HL8 := Lib.hid (HL7.out.trans (hk8.below (B := w.heap.size + 1) (by omega) (fun k hk h => by omega)))
       have hg2 := (hk8.block w2.heap.size (by omega) (fun h => by omega)).trans HG2.out
       have hg3 := (hk8.block w3.heap.size (by omega) (fun h => by omega)).trans HG3.out
       have hg4 := (hk8.block w4.heap.size (by omega) (fun h => by omega)).trans HG4.out
       have hg5 := (hk8.block w5.heap.size (by omega) (fun h => by omega)).trans HG5.out
       have h78 := hk8.size
       clear HG2 HG3 HG4 HG5 x0 x1 x2 v0 v1 v2
       have HG3 := Lib.hid hg3
       have HG4 := Lib.hid hg4
       have HG5 := Lib.hid hg5
       obtain ⟨⟨v0, v1, v2⟩, _⟩ := box_facts hg2
       clear hk8 hg2 hg3 hg4 hg5 HX7 HY7 HA7 HB7 HC7 HL7))
    | (go_at_call 25; go_must (
       refine (spoil_c C0 C1 C2 f0 f1 f2 ⟨[], ss, ks⟩ _ (w1.heap.size + 1) w2.heap.size (OwN.short HY8.out (by decide)) HR6.out (by omega)).mono ?_; rintro e w9 ⟨⟨r, rfl⟩, hk9⟩
       have HA9 := Lib.hid (VH.kept HA8.out hk9 (fun k h1 h2 h => absurd h (by omega)))
       have HB9 := Lib.hid (VH.kept HB8.out hk9 (fun k h1 h2 h => absurd h (by omega)))
       have HC9 := Lib.hid (VH.kept HC8.out hk9 (fun k h1 h2 h => absurd h (by omega)))
       have HL9 := Lib.hid (HL8.out.trans (hk9.below (B := w.heap.size + 1) (by omega) (fun k hk h => by omega)))
       have hg3 := (hk9.block w3.heap.size (by omega) (fun h => by omega)).trans HG3.out
       have hg4 := (hk9.block w4.heap.size (by omega) (fun h => by omega)).trans HG4.out
       have hg5 := (hk9.block w5.heap.size (by omega) (fun h => by omega)).trans HG5.out
       have h89 := hk9.size
       clear HG3 HG4 HG5 v0 v1 v2
       obtain ⟨⟨a0, a1, a2⟩, _⟩ := box_facts hg3
       obtain ⟨⟨b0, b1, b2⟩, _⟩ := box_facts hg4
       obtain ⟨⟨e0, e1, e2⟩, _⟩ := box_facts hg5
       clear hk9 hg3 hg4 hg5 HY8 HA8 HB8 HC8 HL8))
    | (go_at_call 26; go_must (
       refine (fresh_c za.A0 za.A1 za.A2 zb.A0 zb.A1 zb.A2 zc.A0 zc.A1 zc.A2 za.c0 za.c1 za.c2 zb.c0 zb.c1 zb.c2 zc.c0 zc.c1 zc.c2 M _ (w2.heap.size + 1) w3.heap.size HA9.out HM.out (by omega) (by omega) (fun W h => OwN.rd (VH.kept HB9.out h (fun k h1 h2 h => absurd h (by omega)))) (fun W h => OwN.rd (VH.kept HC9.out h (fun k h1 h2 h => absurd h (by omega))))).mono ?_; rintro e w10 ⟨rfl, hk10⟩
       have HL10 := Lib.hid (HL9.out.trans (hk10.below (B := w.heap.size + 1) (by omega) (fun k hk h => by omega)))))
    | (go_at_call 20; refine (awake_c _).mono ?_; rintro e w11 ⟨rfl, hb11⟩))
  go_ret
  exact ⟨rfl, spl_below (spl_next HL10.out hb11)⟩

end Go.Proofs.Ytajkoeodabmgeaa
