import Derived.Test.YtonjgedhmmnolaaGreatDoorZ15

section
namespace Go.Proofs.YtonjgedhmmnolaaGreatDoor
open Go.RowKit
set_option maxHeartbeats 1000000
set_option maxRecDepth 100000

set_option maxHeartbeats 3000000 in
theorem turns_law (x : InV) (w : World) (hX : RdX w x) (hc : ∃ m, w.cell? ⟨1, 0, none⟩ = some (.int .i64 m)) : Calls Tryz.prog 5 #[x.val] w fun e w' => e = .returned (.bool true) ∧ Below w.heap.size w w' := by
  have HX := Lib.hid hX
  have HC := Lib.hid hc
  have HWL := Lib.hid hX.q.wb
  have HLQ := Lib.hid hX.q.hl
  rcases x with ⟨pg, wd, ⟨tn, cols, keys⟩, A, c, ⟨qt, fr, tt, wh, qc, qd, ql, qf, qo, AF, cF, AT, cT, AW, cW, AC, cC⟩, P, AP, cP, AR, nR, cR, pf⟩
  rw [show InV.val ⟨pg, wd, ⟨tn, cols, keys⟩, A, c, ⟨qt, fr, tt, wh, qc, qd, ql, qf, qo, AF, cF, AT, cT, AW, cW, AC, cC⟩, P, AP, cP, AR, nR, cR, pf⟩ = .agg #[.int .i64 pg, .int .i64 wd, .string tn, .slice A cols.length c, .int .i64 keys, .string qt, .slice AF fr.length cF, .slice AT tt.length cT, .slice AW wh.length cW, .slice AC qc.length cC, .bool qd, .int .i64 ql, .int .u8 qf, .string qo, .slice AP P.length cP, .slice AR nR cR, .string pf] from rfl]
  simp only at HWL HLQ
  have hwl : wh.length ≤ 1599289640402 := by have := HWL.out; omega
  have HR0 := Lib.hid (heap_alloc_new w (.cells #[.int .i64 pg, .int .i64 wd, .string tn, .slice A cols.length c, .int .i64 keys, .string qt, .slice AF fr.length cF, .slice AT tt.length cT, .slice AW wh.length cW, .slice AC qc.length cC, .bool qd, .int .i64 ql, .int .u8 qf, .string qo, .slice AP P.length cP, .slice AR nR cR, .string pf] 37))
  have HB0 := Lib.hid ((Below.refl w.heap.size w).alloc (Nat.le_refl _) (.cells #[.int .i64 pg, .int .i64 wd, .string tn, .slice A cols.length c, .int .i64 keys, .string qt, .slice AF fr.length cF, .slice AT tt.length cT, .slice AW wh.length cW, .slice AC qc.length cC, .bool qd, .int .i64 ql, .int .u8 qf, .string qo, .slice AP P.length cP, .slice AR nR cR, .string pf] 37))
  obtain ⟨W0, hW0⟩ : ∃ W0, w.alloc (.cells #[.int .i64 pg, .int .i64 wd, .string tn, .slice A cols.length c, .int .i64 keys, .string qt, .slice AF fr.length cF, .slice AT tt.length cT, .slice AW wh.length cW, .slice AC qc.length cC, .bool qd, .int .i64 ql, .int .u8 qf, .string qo, .slice AP P.length cP, .slice AR nR cR, .string pf] 37) = W0 := ⟨_, rfl⟩
  have HW0 := Lib.hid hW0
  rw [HW0.out] at HR0 HB0
  clear hX hc hW0
  go_enter Tryz.func5, Tryz.ntmps5
  go_upto_if 14 with (go_at_call 9; go_must (rw [HW0.out]; refine (vast_c ⟨qt, fr, tt, wh, qc, qd, ql, qf, qo, AF, cF, AT, cT, AW, cW, AC, cC⟩ W0 (HX.out.q.below HB0.out)).mono ?_; rintro e w1 ⟨⟨b, rfl⟩, hb⟩; have HR1 := Lib.hid (row_keep' HR0.out hb); have HB1 := Lib.hid (HB0.out.trans (hb.mono HB0.out.size)); clear hb))
  obtain ⟨x0, x1, x2, x3, x4, x5, x6, x7, x8, x9, x10, x11, x12, x13, x14, x15, x16, z0⟩ := in_cells HR1.out
  cases b with
  | true =>
    go_wp2_with (go_at_call 8; go_must (refine (awake_c w1 (cell_keep HC.out (Nat.le_refl _) HB1.out)).mono ?_; rintro e w2 ⟨rfl, hb⟩; have HB2 := Lib.hid (HB1.out.trans (hb.mono HB1.out.size)); clear hb x0 x1 x2 x3 x4 x5 x6 x7 x8 x9 x10 x11 x12 x13 x14 x15 x16 z0))
    go_ret
    exact ⟨rfl, HB2.out⟩
  | false =>
    clear x0 x1 x2 x3 x4 x5 x6 x7 x8 x9 x10 x11 x12 x13 x14 x15 x16 z0
    go_upto_region 4 with (first | (refine wpList_load_row rfl 37 (.tmp 1) rfl w.heap.size rfl 37 #[.int .i64 pg, .int .i64 wd, .string tn, .slice A cols.length c, .int .i64 keys, .string qt, .slice AF fr.length cF, .slice AT tt.length cT, .slice AW wh.length cW, .slice AC qc.length cC, .bool qd, .int .i64 ql, .int .u8 qf, .string qo, .slice AP P.length cP, .slice AR nR cR, .string pf] (0, 0) _ HR1.out Tryz.underlying37 rfl (by kernel_rfl) ?_) | (go_at_call 14; go_must (refine (all_c ⟨pg, wd, ⟨tn, cols, keys⟩, A, c, ⟨qt, fr, tt, wh, qc, qd, ql, qf, qo, AF, cF, AT, cT, AW, cW, AC, cC⟩, P, AP, cP, AR, nR, cR, pf⟩ w1 (HX.out.below HB1.out) (cell_keep HC.out (Nat.le_refl _) HB1.out)).mono ?_; rintro e w2 ⟨RL, AL, cL, nL, rfl, hok, hrd, hb⟩; have HOL := Lib.hid hok; have HRL := Lib.hid hrd; have HR2 := Lib.hid (row_keep' HR1.out hb); have HB2 := Lib.hid (HB1.out.trans (hb.mono HB1.out.size)); clear hok hrd hb)))
    obtain ⟨x0, x1, x2, x3, x4, x5, x6, x7, x8, x9, x10, x11, x12, x13, x14, x15, x16, z0⟩ := in_cells HR2.out
    obtain ⟨ch, hch⟩ : ∃ ch, chkQ pg wd ⟨tn, cols, keys⟩ ⟨qt, fr, tt, wh, qc, qd, ql, qf, qo, AF, cF, AT, cT, AW, cW, AC, cC⟩ = ch := ⟨_, rfl⟩
    have HCH := Lib.hid hch
    clear hch
    by_cases hn0 : nL = 0
    · by_cases hc0 : ch = 0
      · have e1 : ((nL : Int) == 0) = true := by simp [hn0]
        have e2 := zz hc0
        have HOL0 := Lib.hid (show PickOk pg wd ⟨tn, cols, keys⟩ (QryV.plain ⟨qt, fr, tt, wh, qc, qd, ql, qf, qo, AF, cF, AT, cT, AW, cW, AC, cC⟩) P (rowsD RL) 0 by have := HOL.out; rw [hn0] at this; exact this)
        have HL0 := Lib.hid (show 0 ≤ ql from (chkQ_ok (HCH.out.trans hc0)).2.2.2.2.2.2.2)
        clear hn0 hc0
        go_upto_region 6 with (go_at_call 12; go_must (refine (Check_query_c pg wd A c ⟨tn, cols, keys⟩ ⟨qt, fr, tt, wh, qc, qd, ql, qf, qo, AF, cF, AT, cT, AW, cW, AC, cC⟩ _ (HX.out.t.below HB2.out) (HX.out.q.below HB2.out) (cell_keep HC.out (Nat.le_refl _) HB2.out)).mono ?_; rw [HCH.out]; rintro e w3 ⟨rfl, hb⟩; have HR3 := Lib.hid (row_keep' HR2.out hb); have HB3 := Lib.hid (HB2.out.trans (hb.mono HB2.out.size)); have HRL3 := Lib.hid (HRL.out.below hb); clear hb x0 x1 x2 x3 x4 x5 x6 x7 x8 x9 x10 x11 x12 x13 x14 x15 x16 z0))
        obtain ⟨x0, x1, x2, x3, x4, x5, x6, x7, x8, x9, x10, x11, x12, x13, x14, x15, x16, z0⟩ := in_cells HR3.out
        go_upto_region 11 with (go_at_call 15; go_must (refine (Pick_c pg wd A c ⟨tn, cols, keys⟩ (QryV.bare ⟨qt, fr, tt, wh, qc, qd, ql, qf, qo, AF, cF, AT, cT, AW, cW, AC, cC⟩ 0 ⟨#[]⟩) AP cP P _ (HX.out.t.below (HB3.out.alloc HB3.out.size _)) ((HX.out.q.bare (by decide) (by decide)).below (HB3.out.alloc HB3.out.size _)) (HX.out.p.below (HB3.out.alloc HB3.out.size _)) (cell_keep HC.out (Nat.le_refl _) (HB3.out.alloc HB3.out.size _)) (fun h => absurd h (by show ¬ (2 : Int) ≤ 0; decide)) (by show 0 * 64 ≤ 140737488355328; decide)).mono ?_; rintro e w4 ⟨RM, AM, cM, nM, rfl, hok, hrd, hb⟩; obtain ⟨hn, hd⟩ := turns_cut HOL0.out HL0.out hok; subst hn; have HDM := Lib.hid hd; have HRM := Lib.hid hrd; have HRQ4 := Lib.hid (row_keep' (heap_alloc_new w3 _) hb); have HB34 := Lib.hid (((Below.refl w3.heap.size w3).alloc (Nat.le_refl _) _).trans (hb.mono (by simp))); have HR4 := Lib.hid (row_keep' HR3.out HB34.out); have HB4 := Lib.hid (HB3.out.trans (HB34.out.mono HB3.out.size)); have HRL4 := Lib.hid (HRL3.out.below HB34.out); clear hok hrd hb hd x0 x1 x2 x3 x4 x5 x6 x7 x8 x9 x10 x11 x12 x13 x14 x15 x16 z0))
        as_aux_lemma =>
          obtain ⟨y0, y1, y2, y3, y4, y5, y6, y7, y8, z1⟩ := q_cells HRQ4.out
          go_upto_region 15 with (first
            | (go_at_call 16; go_must (refine (cut_c RL AL cL qd ql _ HRL4.out HL0.out).mono ?_; rintro e w5 ⟨RW, BW, dW, rfl, hrd, hd, hb⟩; have HDW := Lib.hid hd; have HRW := Lib.hid hrd; have HB45 := Lib.hid hb; clear hd hrd hb y0 y1 y2 y3 y4 y5 y6 y7 y8 z1))
            | (go_at_call 17; go_must (refine (sameR_c RM RW AM BW cM dW _ (HRM.out.below HB45.out) HRW.out (by rw [HDM.out, HDW.out]; exact SameR.refl _)).mono ?_; rintro e w6 ⟨rfl, hb⟩; have HB46 := Lib.hid (HB45.out.trans (hb.mono HB45.out.size)); have HRQ6 := Lib.hid (row_keep' HRQ4.out HB46.out); have HR6 := Lib.hid (row_keep' HR4.out HB46.out); have HB6 := Lib.hid (HB4.out.trans (HB46.out.mono HB4.out.size)); obtain ⟨y0, y1, y2, y3, y4, y5, y6, y7, y8, z1⟩ := q_cells HRQ6.out; have y9 := frozen_of_row w6 w3.heap.size 7 _ _ HRQ6.out; clear hb)))
          clear y0 y1 y2 y3 y4 y5 y6 y7 y8 z1 y9
          have HLEN := Lib.hid (show (cutD qd ql (rowsD RL)).length = RW.length by rw [← HDW.out, rowsD_len])
          have HRQ7 := Lib.hid (show (w6.setCell ⟨w3.heap.size, 7, none⟩ (.int .u8 1)).heap[w3.heap.size]? = some (.cells #[.string qt, .slice AF fr.length cF, .slice AT tt.length cT, .slice AW wh.length cW, .slice none 0 0, .bool qd, .int .i64 ql, .int .u8 1, .string ⟨#[]⟩] 33 (0, 0)) from heap_setCell_same _ _ _ _ _ _ HRQ6.out)
          have HR7 := Lib.hid ((heap_setCell_other w6 ⟨w3.heap.size, 7, none⟩ w.heap.size (.int .u8 1) (by have := HB3.out.size; have := (Array.getElem?_eq_some_iff.1 HR3.out).1; simp; omega)).trans HR6.out)
          have HB7 := Lib.hid (show Below w.heap.size w (w6.setCell ⟨w3.heap.size, 7, none⟩ (.int .u8 1)) from HB6.out.trans (((Kept.refl (fun k => k = w3.heap.size) w6).setCell (.int .u8 1) (.inl rfl)).below HB6.out.size (fun k hk e => by have := HB3.out.size; omega)))
          obtain ⟨w7, hw7⟩ : ∃ W, w6.setCell ⟨w3.heap.size, 7, none⟩ (.int .u8 1) = W := ⟨_, rfl⟩
          have HW7 := Lib.hid hw7
          rw [HW7.out] at HRQ7 HR7 HB7
          rw [HW7.out]
          clear hw7
          obtain ⟨x0, x1, x2, x3, x4, x5, x6, x7, x8, x9, x10, x11, x12, x13, x14, x15, x16, z0⟩ := in_cells HR7.out
          as_aux_lemma =>
            obtain ⟨y0, y1, y2, y3, y4, y5, y6, y7, y8, z1⟩ := q_cells HRQ7.out
            go_upto_region 16 with (go_at_call 15; go_must (refine (Pick_c pg wd A c ⟨tn, cols, keys⟩ (QryV.bare ⟨qt, fr, tt, wh, qc, qd, ql, qf, qo, AF, cF, AT, cT, AW, cW, AC, cC⟩ 1 ⟨#[]⟩) AP cP P w7 (HX.out.t.below HB7.out) ((HX.out.q.bare (by decide) (by decide)).below HB7.out) (HX.out.p.below HB7.out) (cell_keep HC.out (Nat.le_refl _) HB7.out) (fun h => absurd h (by show ¬ (2 : Int) ≤ 1; decide)) (by show 0 * 64 ≤ 140737488355328; decide)).mono ?_; rintro e w8 ⟨RN, AN, cN, nN, rfl, hok, hrd, hb⟩; obtain ⟨hn, hd⟩ := turns_count HOL0.out HL0.out hok; subst hn; rw [HLEN.out] at hd; have HON := Lib.hid (one_int hrd hd); have HR8 := Lib.hid (row_keep' HR7.out hb); have HB8 := Lib.hid (HB7.out.trans (hb.mono HB7.out.size)); clear hok hrd hb hd x0 x1 x2 x3 x4 x5 x6 x7 x8 x9 x10 x11 x12 x13 x14 x15 x16 z0 y0 y1 y2 y3 y4 y5 y6 y7 y8 z1))
            obtain ⟨hN1, ab, ao, xb, xo, xc, rfl, l0, l1, l2⟩ := HON.out
            rw [hN1]
            go_upto_if 109 with fail
            clear l0 l1 l2
            go_step
            go_step
            go_step
            go_step
            exact turns_tail HX HC hwl HOL0 HR8 HB8
      · have e1 : ((nL : Int) == 0) = true := by simp [hn0]
        have e2 := nz hc0
        clear hn0 hc0
        go_wp2_with (first
          | (go_at_call 12; go_must (refine (Check_query_c pg wd A c ⟨tn, cols, keys⟩ ⟨qt, fr, tt, wh, qc, qd, ql, qf, qo, AF, cF, AT, cT, AW, cW, AC, cC⟩ _ (HX.out.t.below HB2.out) (HX.out.q.below HB2.out) (cell_keep HC.out (Nat.le_refl _) HB2.out)).mono ?_; rw [HCH.out]; rintro e w3 ⟨rfl, hb⟩; have HB3 := Lib.hid (HB2.out.trans (hb.mono HB2.out.size)); clear hb x0 x1 x2 x3 x4 x5 x6 x7 x8 x9 x10 x11 x12 x13 x14 x15 x16 z0))
          | (go_at_call 8; go_must (refine (awake_c w3 (cell_keep HC.out (Nat.le_refl _) HB3.out)).mono ?_; rintro e w4 ⟨rfl, hb⟩; have HB4 := Lib.hid (HB3.out.trans (hb.mono HB3.out.size)); clear hb)))
        go_ret
        exact ⟨rfl, HB4.out⟩
    · have e1 : ((nL : Int) == 0) = false := by simp [hn0]
      clear hn0
      go_wp2_with (go_at_call 8; go_must (refine (awake_c w2 (cell_keep HC.out (Nat.le_refl _) HB2.out)).mono ?_; rintro e w4 ⟨rfl, hb⟩; have HB4 := Lib.hid (HB2.out.trans (hb.mono HB2.out.size)); clear hb x0 x1 x2 x3 x4 x5 x6 x7 x8 x9 x10 x11 x12 x13 x14 x15 x16 z0))
      go_ret
      exact ⟨rfl, HB4.out⟩

end Go.Proofs.YtonjgedhmmnolaaGreatDoor
end
