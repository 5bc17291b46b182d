import Derived.Test.YtajkoeodabmgeaaY8
import Derived.Test.YtajkoeodabmgeaaW8
namespace Go.Proofs.Ytajkoeodabmgeaa
open Go.RowKit
set_option maxHeartbeats 4000000
set_option maxRecDepth 100000
attribute [local go_sem] grow_cell grow_frozen grow_size

/-- Two halves in rows of their own, as the document's answer hands them back. -/
def RefPost (w : World) (BL : NodeD) (BS : ByteArray) (BR : NodeD) (rest : Array Value) (e : Ending) (w' : World) : Prop :=
  ∃ (x y : VH), e = .returned (.tuple (#[vH x BL BS y BR] ++ rest)) ∧ VH.own x w' w.heap.size w'.heap.size BL ∧ VH.own y w' w.heap.size w'.heap.size BR ∧ Below w.heap.size w w'
theorem ref_noN (w w1 : World) (rest : Array Value) (hb : Below w.heap.size w w1) :
    RefPost w noN ⟨#[]⟩ noN rest (.returned (.tuple (#[.agg zero7] ++ rest))) w1 :=
  ⟨⟨none, 0, none, 0, none, 0⟩, ⟨none, 0, none, 0, none, 0⟩, rfl, own_noN _ _ _, own_noN _ _ _, hb⟩
theorem ref_fin {w w3 W : World} {x y : VH} {g : Nat} {BL BR : NodeD} {BS : ByteArray} {lo : Nat} (cs : Array Value) (rest : Array Value) (hx : VH.own x w3 lo w3.heap.size BL) (hy : VH.own y w3 lo w3.heap.size BR) (hb : Below w3.heap.size w3 W)
    (hg : g < lo) (hw : w.heap.size ≤ lo) (hB : Below w.heap.size w (W.setRow g cs)) :
    RefPost w BL BS BR rest (.returned (.tuple (#[vH x BL BS y BR] ++ rest))) (W.setRow g cs) := by
  have hs := hb.size
  have hss : (W.setRow g cs).heap.size = W.heap.size := by simp [World.setRow]
  exact ⟨x, y, rfl, (OwN.setRow' (OwN.below hx hb) _ _ (.inl hg)).wide hw (by omega), (OwN.setRow' (OwN.below hy hb) _ _ (.inl hg)).wide hw (by omega), hB⟩

theorem refBorrow_c (pg wd : Int) (x : VH) (L : NodeD) (s : ByteArray) (y : VH) (R : NodeD) (w : World) (hL : RdN w x.A0 x.c0 x.A1 x.c1 x.A2 x.c2 L) (hR : RdN w y.A0 y.c0 y.A1 y.c1 y.A2 y.c2 R) (hJ : JoinOk L s R) :
    Calls Try.prog 53 #[vF pg wd, vH x L s y R] w fun e w' => RefPost w (borrowL pg wd L s R) (borrowS pg wd L s R) (borrowR pg wd L s R) #[.int .i64 (borrowE pg wd L s R)] e w' := by
  obtain ⟨J, hJd⟩ : ∃ J, joinR pg wd L s R = J := ⟨_, rfl⟩
  obtain ⟨E, hEd⟩ : ∃ E, joinE pg wd L s R = E := ⟨_, rfl⟩
  have HJC := Lib.hid (one_v pg wd x L s y R hJ J hJd E hEd)
  have HL := Lib.hid hL
  have HRD := Lib.hid hR
  clear hJ hL hR
  by_cases hc : E = 0
  · subst hc
    obtain ⟨BL, hBL⟩ : ∃ X, splitL pg wd J = X := ⟨_, rfl⟩
    obtain ⟨BS, hBS⟩ : ∃ X, splitS pg wd J = X := ⟨_, rfl⟩
    obtain ⟨BR, hBR⟩ : ∃ X, splitR pg wd J = X := ⟨_, rfl⟩
    obtain ⟨F, hF⟩ : ∃ X, splitE pg wd J = X := ⟨_, rfl⟩
    have HSC := Lib.hid (fun (z : VH) w h => refSplit_w pg wd J BL hBL BS hBS BR hBR F hF z.A0 z.A1 z.A2 z.c0 z.c1 z.c2 w h)
    rw [borrowL, borrowS, borrowR, borrowE, if_pos hEd, if_pos hEd, if_pos hEd, if_pos hEd, hJd, hBL, hBS, hBR, hF]
    clear hJd hEd hBL hBS hBR hF
    go_enter Try.func53, Try.ntmps53
    go_wp2_with (first
      | (go_at_call 90; go_must (
         refine (HJC.out _ (HL.out.below bor_base) (HRD.out.below bor_base)).mono ?_; rintro e w1 ⟨z, rfl, hown, hb⟩
         have hB1 := bor_first hb
         have HO := Lib.hid (OwN.rd (OwN.below hown ((Below.refl _ _).alloc (Nat.le_refl _) (.cells (node3 z J) 29))))
         have hz := bor_size hB1
         have hB1a := hB1.alloc hz (.cells (node3 z J) 29)
         have hg := bor_row hB1a
         obtain ⟨s0, s1⟩ := bor_frame hB1
         have z0 : w.heap.size < w1.heap.size := (by omega)
         clear hown hb))
      | (go_at_call 33; go_must (
         refine (HSC.out z _ HO.out).mono ?_; rintro e w2 ⟨⟨x', y', rfl, hx, hy⟩, hb2⟩
         have HX := Lib.hid hx
         have HY := Lib.hid hy
         have hB2 := bor_next hB1a hb2
         have hg2 := bor_row hB2
         have hs2 := hb2.size
         clear hx hy))
      | (refine wpList_store_row rfl 54 (.tmp 4) (.tmp 21) rfl (w.heap.size + 1 + 1) (cells7 x' BL BS y' BR) rfl rfl 54 zero7 hg2 info54 rfl (own7 x' y' _ _ _) ?_))
    refine bodyPost_ret (results_ct rfl _ _ (w.heap.size + 1 + 1) 54 (cells7 x' BL BS y' BR) (0, 0) _ rfl (setRow_block _ _ _ _ _ _ hg2) Try.underlying54 rfl info54) rfl ?_
    exact ref_fin _ #[.int .i64 F] HX.out HY.out (Below.refl _ _) (by simp; omega) (by simp; omega) (below_setRow (bor_below hB2) (by omega) _)
  · have hcc : (E != 0) = true := by simp [hc]
    rw [borrowL, borrowS, borrowR, borrowE, hEd, if_neg hc, if_neg hc, if_neg hc, if_neg hc]
    clear hJd hEd hc
    go_enter Try.func53, Try.ntmps53
    go_wp2_with (first
      | (go_at_call 90; go_must (
         refine (HJC.out _ (HL.out.below bor_base) (HRD.out.below bor_base)).mono ?_; rintro e w1 ⟨z, rfl, hown, hb⟩
         have hB1 := bor_first hb
         have HO := Lib.hid (OwN.rd (OwN.below hown ((Below.refl _ _).alloc (Nat.le_refl _) (.cells (node3 z J) 29))))
         have hz := bor_size hB1
         have hB1a := hB1.alloc hz (.cells (node3 z J) 29)
         have hg := bor_row hB1a
         obtain ⟨s0, s1⟩ := bor_frame hB1
         have z0 : w.heap.size < w1.heap.size := (by omega)
         clear hown hb))
      | (refine wpList_store_row rfl 54 (.tmp 4) (.tmp 16) rfl (w.heap.size + 1 + 1) zero7 rfl rfl 54 zero7 hg info54 rfl zero7_one ?_))
    refine bodyPost_ret (results_ct rfl _ _ (w.heap.size + 1 + 1) 54 zero7 (0, 0) _ rfl (setRow_block _ _ _ _ _ _ hg) Try.underlying54 rfl info54) rfl ?_
    exact ref_noN w _ #[.int .i64 E] (below_setRow (bor_below hB1a) (by omega) _)

theorem refMend_c (pg wd : Int) (x : VH) (L : NodeD) (s : ByteArray) (y : VH) (R : NodeD) (w : World) (hL : RdN w x.A0 x.c0 x.A1 x.c1 x.A2 x.c2 L) (hR : RdN w y.A0 y.c0 y.A1 y.c1 y.A2 y.c2 R) (hJ : JoinOk L s R) :
    Calls Try.prog 58 #[vF pg wd, vH x L s y R] w fun e w' => RefPost w (mendL pg wd L s R) (mendS pg wd L s R) (mendR pg wd L s R) #[.bool (mendB pg wd L s R), .int .i64 (mendE pg wd L s R)] e w' := by
  obtain ⟨J, hJd⟩ : ∃ J, joinR pg wd L s R = J := ⟨_, rfl⟩
  obtain ⟨E, hEd⟩ : ∃ E, joinE pg wd L s R = E := ⟨_, rfl⟩
  have HJC := Lib.hid (one_v pg wd x L s y R hJ J hJd E hEd)
  have HL := Lib.hid hL
  have HRD := Lib.hid hR
  clear hJ hL hR
  by_cases hc : E = 0
  · subst hc
    obtain ⟨f, hf⟩ : ∃ f, fullB pg wd J = f := ⟨_, rfl⟩
    obtain ⟨BL, hBL⟩ : ∃ X, splitL pg wd J = X := ⟨_, rfl⟩
    obtain ⟨BS, hBS⟩ : ∃ X, splitS pg wd J = X := ⟨_, rfl⟩
    obtain ⟨BR, hBR⟩ : ∃ X, splitR pg wd J = X := ⟨_, rfl⟩
    obtain ⟨F, hF⟩ : ∃ X, splitE pg wd J = X := ⟨_, rfl⟩
    have HSC := Lib.hid (fun (z : VH) w h => refSplit_w pg wd J BL hBL BS hBS BR hBR F hF z.A0 z.A1 z.A2 z.c0 z.c1 z.c2 w h)
    rw [mendL, mendS, mendR, mendB, mendE, if_pos hEd, if_pos hEd, if_pos hEd, if_pos hEd, if_pos hEd, hJd, hf, hBL, hBS, hBR, hF]
    have HF := Lib.hid hf
    clear hJd hEd hBL hBS hBR hF hf
    cases f
    all_goals
      simp only [if_true, Bool.false_eq_true, if_false]
      go_enter Try.func58, Try.ntmps58
      go_wp2_with (first
        | (go_at_call 90; go_must (
           refine (HJC.out _ (HL.out.below bor_base) (HRD.out.below bor_base)).mono ?_; rintro e w1 ⟨z, rfl, hown, hb⟩
           have hB1 := bor_first hb
           have HO := Lib.hid (OwN.rd (OwN.below hown ((Below.refl _ _).alloc (Nat.le_refl _) (.cells (node3 z J) 29))))
           have HOW := Lib.hid (OwN.below hown ((Below.refl _ _).alloc (Nat.le_refl _) (.cells (node3 z J) 29)))
           have hz := bor_size hB1
           have hB1a := hB1.alloc hz (.cells (node3 z J) 29)
           have hg := bor_row hB1a
           obtain ⟨s0, s1⟩ := bor_frame hB1
           have z0 : w.heap.size < w1.heap.size := (by omega)
           clear hown hb))
        | (go_at_call 36; go_must (
           refine (refFull_v pg wd z J _ HO.out _ HF.out).mono ?_; rintro e w2 ⟨rfl, hb2⟩
           have hB2 := bor_next hB1a hb2
           have hg2 := bor_row hB2
           have hr := one_row hb2
           have HO2 := Lib.hid (HO.out.below hb2)
           have HN2 := Lib.hid (OwN.below HOW.out hb2)
           have hs2 := hb2.size
           have z1 : w1.heap.size < w2.heap.size := (by simp only [World.size_alloc] at hs2; omega)
           clear s0 s1 z0
           obtain ⟨s0, s1⟩ := bor_frame hB2
           obtain ⟨⟨p0, p1, p2⟩, _⟩ := box_facts hr))
        | (go_at_call 33; go_must (
           refine (HSC.out z _ HO2.out).mono ?_; rintro e w3 ⟨⟨x', y', rfl, hx, hy⟩, hb3⟩
           have HX := Lib.hid hx
           have HY := Lib.hid hy
           have hB3 := bor_next hB2 hb3
           have hs3 := hb3.size
           have hg3 := bor_row (hB3.alloc (bor_size hB3) (.cells (cells7 x' BL BS y' BR) 54))
           clear hx hy s0 s1 p0 p1 p2))
        | (refine wpList_store_row rfl 54 (.tmp 4) (.tmp 26) rfl (w.heap.size + 1 + 1) #[.slice z.A0 J.pairs.length z.c0, .slice z.A1 J.seps.length z.c1, .slice z.A2 J.kids.length z.c2, .string ⟨#[]⟩, .slice none 0 0, .slice none 0 0, .slice none 0 0] rfl rfl 54 zero7 hg2 info54 rfl (own7 z ⟨none, 0, none, 0, none, 0⟩ J noN _) ?_)
        | (refine wpList_store_row rfl 54 (.tmp 4) (.tmp 33) rfl (w.heap.size + 1 + 1) (cells7 x' BL BS y' BR) rfl rfl 54 zero7 hg3 info54 rfl (own7 x' y' _ _ _) ?_))
      first
        | (refine bodyPost_ret (results_ctt rfl _ _ (w.heap.size + 1 + 1) 54 #[.slice z.A0 J.pairs.length z.c0, .slice z.A1 J.seps.length z.c1, .slice z.A2 J.kids.length z.c2, .string ⟨#[]⟩, .slice none 0 0, .slice none 0 0, .slice none 0 0] (0, 0) _ rfl (setRow_block _ _ _ _ _ _ hg2) Try.underlying54 rfl info54) rfl ?_
           exact ref_fin (x := z) (y := ⟨none, 0, none, 0, none, 0⟩) (BR := noN) (BS := ⟨#[]⟩) _ #[.bool true, .int .i64 0] (OwN.wide (OwN.top HN2.out) (Nat.le_refl _) (Nat.le_refl _)) (own_noN _ _ _) (Below.refl _ _) (by simp) (by simp; omega) (below_setRow (bor_below hB2) (by omega) _))
        | (refine bodyPost_ret (results_ctt rfl _ _ (w.heap.size + 1 + 1) 54 (cells7 x' BL BS y' BR) (0, 0) _ rfl (setRow_block _ _ _ _ _ _ hg3) Try.underlying54 rfl info54) rfl ?_
           exact ref_fin _ #[.bool false, .int .i64 F] HX.out HY.out ((Below.refl _ _).alloc (Nat.le_refl _) _) (by omega) (by omega) (below_setRow ((bor_below hB3).alloc (by have := bor_size hB3; omega) _) (by omega) _))
  · have hcc : (E != 0) = true := by simp [hc]
    rw [mendL, mendS, mendR, mendB, mendE, hEd, if_neg hc, if_neg hc, if_neg hc, if_neg hc, if_neg hc]
    clear hJd hEd hc
    go_enter Try.func58, Try.ntmps58
    go_wp2_with (first
      | (go_at_call 90; go_must (
         refine (HJC.out _ (HL.out.below bor_base) (HRD.out.below bor_base)).mono ?_; rintro e w1 ⟨z, rfl, hown, hb⟩
         have hB1 := bor_first hb
         have HO := Lib.hid (OwN.rd (OwN.below hown ((Below.refl _ _).alloc (Nat.le_refl _) (.cells (node3 z J) 29))))
         have hz := bor_size hB1
         have hB1a := hB1.alloc hz (.cells (node3 z J) 29)
         have hg := bor_row hB1a
         obtain ⟨s0, s1⟩ := bor_frame hB1
         have z0 : w.heap.size < w1.heap.size := (by omega)
         clear hown hb))
      | (refine wpList_store_row rfl 54 (.tmp 4) (.tmp 19) rfl (w.heap.size + 1 + 1) zero7 rfl rfl 54 zero7 hg info54 rfl zero7_one ?_))
    refine bodyPost_ret (results_ctt rfl _ _ (w.heap.size + 1 + 1) 54 zero7 (0, 0) _ rfl (setRow_block _ _ _ _ _ _ hg) Try.underlying54 rfl info54) rfl ?_
    exact ref_noN w _ #[.bool false, .int .i64 E] (below_setRow (bor_below hB1a) (by omega) _)

end Go.Proofs.Ytajkoeodabmgeaa
