import Derived.Test.YtajkoeodabmgeaaY9
namespace Go.Proofs.Ytajkoeodabmgeaa
open Go.RowKit
set_option maxHeartbeats 4000000
set_option maxRecDepth 100000
attribute [local go_sem] grow_cell grow_frozen grow_size

theorem keptHalves_c (x y x' y' : VH) (L R : NodeD) (s : ByteArray) (w : World) (h1 : RdH w x (longN L 4)) (h2 : RdH w y (longN R 4)) (h3 : RdH w x' L) (h4 : RdH w y' R) :
    Calls Try.prog 54 #[vH x L s y R, vH x' L s y' R] w fun e w' => e = .returned (.bool true) ∧ Below w.heap.size w w' := by
  have hb0 : Below w.heap.size w ((w.alloc (.cells (cells7 x L s y R) 54)).alloc (.cells (cells7 x' L s y' R) 54)) := ((Below.refl _ _).alloc (Nat.le_refl _) _).alloc (by simp) _
  have H1 := Lib.hid (RdN.below h1 hb0)
  have H2 := Lib.hid (RdN.below h2 hb0)
  have H3 := Lib.hid (RdN.below h3 hb0)
  have H4 := Lib.hid (RdN.below h4 hb0)
  have HB0 := Lib.hid hb0
  clear h1 h2 h3 h4 hb0
  go_enter Try.func54, Try.ntmps54
  go_wp2_with (first
    | (go_at_call 24; skip; (
       refine (kept_c x'.A0 x'.A1 x'.A2 x.A0 x.A1 x.A2 x'.c0 x'.c1 x'.c2 x.c0 x.c1 x.c2 L _ H1.out H3.out).mono ?_; rintro e w1 ⟨rfl, hb1⟩
       have r1 : w1.heap[w.heap.size]? = some (.cells (cells7 x L s y R) 54 (0, 0)) := (hb1.block _ (by simp <;> omega)).trans ((Below.heap_alloc _ _ _ (by simp)).trans (heap_alloc_new _ _))
       have r2 : w1.heap[w.heap.size + 1]? = some (.cells (cells7 x' L s y' R) 54 (0, 0)) := (hb1.block _ (by simp)).trans (alloc2_at w _ _)
       obtain ⟨p0, p1, p2, p3, p4, p5, p6⟩ := box7s r1
       obtain ⟨q0, q1, q2, q3, q4, q5, q6⟩ := box7s r2
       have H2' := Lib.hid (H2.out.below hb1)
       have H4' := Lib.hid (H4.out.below hb1)
       have HB1 := Lib.hid (HB0.out.trans (hb1.mono HB0.out.size))
       clear H1 H3 H2 H4 r1 r2 hb1))
    | (go_at_call 24; go_must (
       refine (kept_c y'.A0 y'.A1 y'.A2 y.A0 y.A1 y.A2 y'.c0 y'.c1 y'.c2 y.c0 y.c1 y.c2 R _ H2'.out H4'.out).mono ?_; rintro e w2 ⟨rfl, hb2⟩)))
  go_ret
  exact ⟨rfl, HB1.out.trans (hb2.mono HB1.out.size)⟩

abbrev lhW (w : World) (c : Array Value) : World := (w.alloc (.cells c 54)).alloc (.cells zero7 54)
theorem lhW_start {w : World} {c : Array Value} : Box (w.heap.size + 1) 7 54 (lhW w c) (lhW w c) :=
  ⟨Below.refl _ _, zero7, alloc2_at w _ _, rfl⟩
theorem lhW_below {w w1 : World} {c : Array Value} (h : Box (w.heap.size + 1) 7 54 (lhW w c) w1) : Below w.heap.size w w1 :=
  (((Below.refl _ _).alloc (Nat.le_refl _) _).alloc (by simp) _).trans (h.1.mono (by omega))
theorem lhW_row {w w1 : World} {c : Array Value} (h : Box (w.heap.size + 1) 7 54 (lhW w c) w1) : w1.heap[w.heap.size]? = some (.cells c 54 (0, 0)) :=
  (h.1.block _ (by omega)).trans ((Below.heap_alloc _ _ _ (by simp)).trans (heap_alloc_new _ _))

theorem lentHalves_c (x y : VH) (L R : NodeD) (s : ByteArray) (w : World) (h1 : RdH w x L) (h2 : RdH w y R) (hL : Room 4 L) (hR : Room 4 R) :
    Calls Try.prog 51 #[vH x L s y R] w fun e w' =>
      ∃ (x' y' : VH) (mid : Nat), e = .returned (vH x' L s y' R) ∧ VH.own x' w' w.heap.size mid (longN L 4) ∧ VH.own y' w' mid w'.heap.size (longN R 4) ∧ Below w.heap.size w w' ∧ w.heap.size ≤ mid ∧ mid ≤ w'.heap.size := by
  have H1 := Lib.hid h1
  have H2 := Lib.hid h2
  have HL := Lib.hid hL
  have HRr := Lib.hid hR
  clear h1 h2 hL hR
  go_enter Try.func51, Try.ntmps51
  go_wp2
  have hS1 := @lhW_start w (cells7 x L s y R)
  have HF := Lib.hid (fun W (h : Box (w.heap.size + 1) 7 54 (lhW w (cells7 x L s y R)) W) => box7s (lhW_row h))
  refine wp_region_sched (S := Box (w.heap.size + 1) 7 54 (lhW w (cells7 x L s y R))) [(0, true), (1, true), (3, true), (4, true), (5, true), (6, true), (2, false), (7, false), (8, true), (9, false)]
    (by kernel_rfl) (by kernel_rfl) (by kernel_rfl) (fun _ _ d _ _ h => by cases d <;> exact h) hS1.drew ?_
  repeat (apply sched_take; (exact rfl); rfl; (intro W hW; obtain ⟨q0, q1, q2, q3, q4, q5, q6⟩ := HF.out W hW; go_simp; (try with_reducible rfl)); simp only [Act.put, List.setIfInBounds_toArray, List.set_cons_zero, List.set_cons_succ])
  apply sched_run; (exact rfl); rfl; intro K hK; go_simp
  refine (lent_c x.A0 x.A1 x.A2 x.c0 x.c1 x.c2 L _ (RdN.below H1.out (lhW_below hS1.drew)) HL.out).mono ?_
  rintro e w2 ⟨B0, d0, B1, d1, B2, d2, rfl, hx, hb2⟩
  have hS2 := hS1.drew.step hb2
  have HX := Lib.hid hx
  clear hx
  refine hK.out _ _ hS2 (fun _ => ?_)
  clear hK K
  try simp only [Act.put, List.setIfInBounds_toArray, List.set_cons_zero, List.set_cons_succ]
  apply sched_run; (exact rfl); rfl; intro K hK; go_simp
  refine (lent_c y.A0 y.A1 y.A2 y.c0 y.c1 y.c2 R _ (RdN.below H2.out (lhW_below hS2)) HRr.out).mono ?_
  rintro e w3 ⟨C0, e0, C1, e1, C2, e2, rfl, hy, hb3⟩
  have hS3 := hS2.step hb3
  have HY := Lib.hid hy
  clear hy
  refine hK.out _ _ hS3 (fun _ => ?_)
  clear hK K
  try simp only [Act.put, List.setIfInBounds_toArray, List.set_cons_zero, List.set_cons_succ]
  repeat (apply sched_take; (exact rfl); rfl; (intro W hW; go_simp; (try with_reducible rfl)); simp only [Act.put, List.setIfInBounds_toArray, List.set_cons_zero, List.set_cons_succ])
  apply sched_run; (exact rfl); rfl; intro K hK
  refine wp_store_box hS3 54 (.tmp 2) (.tmp 11) rfl (cells7 ⟨B0, d0, B1, d1, B2, d2⟩ L s ⟨C0, e0, C1, e1, C2, e2⟩ R) rfl rfl info54 rfl (own7 ⟨B0, d0, B1, d1, B2, d2⟩ ⟨C0, e0, C1, e1, C2, e2⟩ L R s) ?_
  refine hK.out _ _ (hS3.setRow _ rfl) (fun hS4 => ?_)
  clear hK K
  refine sched_done ?_
  go_wp2
  refine bodyPost_ret (results_cell_row rfl _ _ (w.heap.size + 1) 54 _ (0, 0) _ rfl (hS3.2.setRow _ rfl).2 Try.underlying54 rfl info54) rfl ?_
  have hl : w.heap.size + 1 < w2.heap.size := hS2.2.lt
  have hl1 : w.heap.size + 1 < (lhW w (cells7 x L s y R)).drew.heap.size := hS1.drew.2.lt
  have hs3 := hb3.size
  exact ⟨⟨B0, d0, B1, d1, B2, d2⟩, ⟨C0, e0, C1, e1, C2, e2⟩, w2.heap.size, rfl,
    (OwN.setRow' (OwN.below HX.out hb3) _ _ (.inl hl1)).wide (by omega) (Nat.le_refl _), (OwN.setRow' HY.out _ _ (.inl hl)).wide (Nat.le_refl _) (by simp [World.setRow]), lhW_below (hS3.setRow _ rfl), by omega, by simp [World.setRow]; omega⟩

end Go.Proofs.Ytajkoeodabmgeaa
