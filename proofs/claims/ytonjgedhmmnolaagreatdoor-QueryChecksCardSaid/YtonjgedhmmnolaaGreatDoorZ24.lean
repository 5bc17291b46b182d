import Derived.Test.YtonjgedhmmnolaaGreatDoorZ23
import Derived.Test.YtonjgedhmmnolaaGreatDoorZ15

section
namespace Go.Proofs.YtonjgedhmmnolaaGreatDoor
open Go.RowKit
set_option maxHeartbeats 6000000
set_option maxRecDepth 100000

theorem andB (a b : Bool) : ((a && b) = false) ↔ (a = false ∨ b = false) := by cases a <;> cases b <;> simp
theorem refCheck26_c (pg wd : Int) (A : Option Addr) (c : Nat) (t : TabD) (q : QryV) (w : World) (hR : RdT w A c t) (hQ : RdQ w q) :
    Calls Tryz.prog 13 #[vF pg wd, vT t A c, q.val] w fun e w' => e = .returned (.int .i64 (chkQ pg wd t q)) ∧ Below w.heap.size w w' := by
  have HR := Lib.hid hR
  have HQ := Lib.hid hQ
  have hll := hQ.hl
  rcases t with ⟨tn, cols, keys⟩
  rcases q with ⟨qt, fr, tt, wh, qc, qd, ql, qf, qo, AF, cF, AT, cT, AW, cW, AC, cC⟩
  simp only [QryV.val, QryV.cells] at hll ⊢
  obtain ⟨W0, hW0⟩ : ∃ W0, ((w.alloc (.cells #[.int .i64 pg, .int .i64 wd] 24)).alloc (.cells #[.string tn, .slice A cols.length c, .int .i64 keys] 27)).alloc (.cells #[.string qt, .slice AF fr.length cF, .slice AT tt.length cT, .slice AW wh.length cW, .slice AC qc.length cC, .bool qd, .int .i64 ql, .int .u8 qf, .string qo] 33) = W0 := ⟨_, rfl⟩
  have HW0 := Lib.hid hW0
  have HBX := Lib.hid (fun W (h : Below (w.heap.size + 3) W0 W) => boxes_fq (hW0 ▸ h))
  have HCQ := Lib.hid (show chkQ pg wd ⟨tn, cols, keys⟩ ⟨qt, fr, tt, wh, qc, qd, ql, qf, qo, AF, cF, AT, cT, AW, cW, AC, cC⟩ = if chkT pg wd ⟨tn, cols, keys⟩ ≠ 0 then chkT pg wd ⟨tn, cols, keys⟩ else if qt.data.toList ≠ tn.data.toList then 250
    else if (bndR pg wd ⟨tn, cols, keys⟩ (VI.dataL fr)).2.2 ≠ 0 then (bndR pg wd ⟨tn, cols, keys⟩ (VI.dataL fr)).2.2 else if (bndR pg wd ⟨tn, cols, keys⟩ (VI.dataL tt)).2.2 ≠ 0 then (bndR pg wd ⟨tn, cols, keys⟩ (VI.dataL tt)).2.2
    else if namedB ⟨tn, cols, keys⟩ ⟨qt, fr, tt, wh, qc, qd, ql, qf, qo, AF, cF, AT, cT, AW, cW, AC, cC⟩ = false then 260 else if (wh.all condB) = false then 261 else if foldsB ⟨tn, cols, keys⟩ ⟨qt, fr, tt, wh, qc, qd, ql, qf, qo, AF, cF, AT, cT, AW, cW, AC, cC⟩ = false then 261 else if ql < 0 then 2 else 0 from rfl)
  have HEQ := Lib.hid (eqB qt tn)
  have HNO := Lib.hid (fun (h : namedB ⟨tn, cols, keys⟩ ⟨qt, fr, tt, wh, qc, qd, ql, qf, qo, AF, cF, AT, cT, AW, cW, AC, cC⟩ = true) (hf : 2 ≤ qf) => named_over h hf)
  clear hR hQ hW0
  obtain ⟨ct, hct⟩ : ∃ n, chkT pg wd ⟨tn, cols, keys⟩ = n := ⟨_, rfl⟩
  obtain ⟨bf, hbf⟩ : ∃ n, bndR pg wd ⟨tn, cols, keys⟩ (VI.dataL fr) = n := ⟨_, rfl⟩
  obtain ⟨bt, hbt⟩ : ∃ n, bndR pg wd ⟨tn, cols, keys⟩ (VI.dataL tt) = n := ⟨_, rfl⟩
  obtain ⟨nb, hnb⟩ : ∃ n, namedB ⟨tn, cols, keys⟩ ⟨qt, fr, tt, wh, qc, qd, ql, qf, qo, AF, cF, AT, cT, AW, cW, AC, cC⟩ = n := ⟨_, rfl⟩
  obtain ⟨cb, hcb⟩ : ∃ n, wh.all condB = n := ⟨_, rfl⟩
  obtain ⟨fb, hfb⟩ : ∃ n, foldsB ⟨tn, cols, keys⟩ ⟨qt, fr, tt, wh, qc, qd, ql, qf, qo, AF, cF, AT, cT, AW, cW, AC, cC⟩ = n := ⟨_, rfl⟩
  obtain ⟨R, hRR⟩ : ∃ n, chkQ pg wd ⟨tn, cols, keys⟩ ⟨qt, fr, tt, wh, qc, qd, ql, qf, qo, AF, cF, AT, cT, AW, cW, AC, cC⟩ = n := ⟨_, rfl⟩
  rw [hct, hbf, hbt, hnb, hcb, hfb, hRR] at HCQ
  rw [hnb] at HNO
  rw [hRR]
  have HCT := Lib.hid hct
  have HBF := Lib.hid hbf
  have HBT := Lib.hid hbt
  have HNB := Lib.hid hnb
  have HCB := Lib.hid (show (wh.all condB && foldsB ⟨tn, cols, keys⟩ ⟨qt, fr, tt, wh, qc, qd, ql, qf, qo, AF, cF, AT, cT, AW, cW, AC, cC⟩) = (cb && fb) by rw [hcb, hfb])
  clear hct hbf hbt hnb hcb hfb hRR
  rcases bf with ⟨bf0, bf1, bfe⟩
  rcases bt with ⟨bt0, bt1, bte⟩
  simp only at HCQ
  obtain ⟨eb, heb⟩ : ∃ b, (qt.toList == tn.toList) = b := ⟨_, rfl⟩
  rw [heb] at HEQ
  have HNM := Lib.hid (show (eb = true → qt.data.toList = tn.data.toList) ∧ (eb = false → qt.data.toList ≠ tn.data.toList) from ⟨fun h => by have := HEQ.out; rw [h] at this; exact of_decide_eq_true this.symm, fun h => by have := HEQ.out; rw [h] at this; exact of_decide_eq_false this.symm⟩)
  have HB0 := Lib.hid (Below.refl (w.heap.size + 3) W0)
  obtain ⟨⟨f0, f1⟩, ⟨q0, q1, q2⟩, ⟨a0, a1, a2, a3, a4, a5, a6, a7, a8⟩, q3, q4⟩ := HBX.out _ HB0.out
  have HV0 := Lib.hid q4
  clear q4
  by_cases z1 : ct = 0
  · rw [if_neg (by rw [z1]; decide)] at HCQ
    have e1 := zz z1
    clear z1
    cases eb
    · rw [if_pos (HNM.out.2 rfl)] at HCQ
      go_enter Tryz.func13, Tryz.ntmps13
      go_upto_region 1 with fail
      rw [HW0.out]
      go_wp2_with (first
        | (go_at_call 31; go_must (refine (refCheck25_c pg wd A c ⟨tn, cols, keys⟩ _ (HR.out.below HV0.out)).mono ?_; rintro e w1 ⟨rfl, hb⟩; rw [HCT.out]; clear f0 f1 q0 q1 q2 a0 a1 a2 a3 a4 a5 a6 a7 a8; have hz : w.heap.size + 3 ≤ _ := q3; clear q3; have HB1 := Lib.hid (HB0.out.trans (hb.mono hz)); clear hb hz; obtain ⟨⟨f0, f1⟩, ⟨q0, q1, q2⟩, ⟨a0, a1, a2, a3, a4, a5, a6, a7, a8⟩, q3, q4⟩ := HBX.out _ HB1.out; have HV1 := Lib.hid q4; clear q4))
        | (go_at_call 26; refine (refBounds_c pg wd A c ⟨tn, cols, keys⟩ AF cF fr _ (HR.out.below HV1.out) (HQ.out.below HV1.out).fr).mono ?_; rintro e w2 ⟨rfl, hb⟩; rw [HBF.out]; clear f0 f1 q0 q1 q2 a0 a1 a2 a3 a4 a5 a6 a7 a8; have hz : w.heap.size + 3 ≤ _ := q3; clear q3; have HB2 := Lib.hid (HB1.out.trans (hb.mono hz)); clear hb hz; obtain ⟨⟨f0, f1⟩, ⟨q0, q1, q2⟩, ⟨a0, a1, a2, a3, a4, a5, a6, a7, a8⟩, q3, q4⟩ := HBX.out _ HB2.out; have HV2 := Lib.hid q4; clear q4))
      go_ret
      exact ⟨ret_eq (by rw [HCQ.out]; rfl), HV1.out⟩
    · rw [if_neg (not_not_intro (HNM.out.1 rfl))] at HCQ
      by_cases z2 : bfe = 0
      · rw [if_neg (by rw [z2]; decide)] at HCQ
        have e2 := zz z2
        clear z2
        by_cases z3 : bte = 0
        · rw [if_neg (by rw [z3]; decide)] at HCQ
          have e3 := zz z3
          clear z3
          cases nb
          · rw [if_pos rfl] at HCQ
            go_enter Tryz.func13, Tryz.ntmps13
            go_upto_region 1 with fail
            rw [HW0.out]
            go_upto_region 9 with (first
              | (go_at_call 31; go_must (refine (refCheck25_c pg wd A c ⟨tn, cols, keys⟩ _ (HR.out.below HV0.out)).mono ?_; rintro e w1 ⟨rfl, hb⟩; rw [HCT.out]; clear f0 f1 q0 q1 q2 a0 a1 a2 a3 a4 a5 a6 a7 a8; have hz : w.heap.size + 3 ≤ _ := q3; clear q3; have HB1 := Lib.hid (HB0.out.trans (hb.mono hz)); clear hb hz; obtain ⟨⟨f0, f1⟩, ⟨q0, q1, q2⟩, ⟨a0, a1, a2, a3, a4, a5, a6, a7, a8⟩, q3, q4⟩ := HBX.out _ HB1.out; have HV1 := Lib.hid q4; clear q4))
              | (go_at_call 26; refine (refBounds_c pg wd A c ⟨tn, cols, keys⟩ AF cF fr _ (HR.out.below HV1.out) (HQ.out.below HV1.out).fr).mono ?_; rintro e w2 ⟨rfl, hb⟩; rw [HBF.out]; clear f0 f1 q0 q1 q2 a0 a1 a2 a3 a4 a5 a6 a7 a8; have hz : w.heap.size + 3 ≤ _ := q3; clear q3; have HB2 := Lib.hid (HB1.out.trans (hb.mono hz)); clear hb hz; obtain ⟨⟨f0, f1⟩, ⟨q0, q1, q2⟩, ⟨a0, a1, a2, a3, a4, a5, a6, a7, a8⟩, q3, q4⟩ := HBX.out _ HB2.out; have HV2 := Lib.hid q4; clear q4))
            go_wp2_with (first
              | (go_at_call 26; refine (refBounds_c pg wd A c ⟨tn, cols, keys⟩ AT cT tt _ (HR.out.below HV2.out) (HQ.out.below HV2.out).tt).mono ?_; rintro e w3 ⟨rfl, hb⟩; rw [HBT.out]; clear f0 f1 q0 q1 q2 a0 a1 a2 a3 a4 a5 a6 a7 a8; have hz : w.heap.size + 3 ≤ _ := q3; clear q3; have HB3 := Lib.hid (HB2.out.trans (hb.mono hz)); clear hb hz; obtain ⟨⟨f0, f1⟩, ⟨q0, q1, q2⟩, ⟨a0, a1, a2, a3, a4, a5, a6, a7, a8⟩, q3, q4⟩ := HBX.out _ HB3.out; have HV3 := Lib.hid q4; clear q4)
              | (go_at_call 32; go_must (refine (refCols_c A c ⟨tn, cols, keys⟩ ⟨qt, fr, tt, wh, qc, qd, ql, qf, qo, AF, cF, AT, cT, AW, cW, AC, cC⟩ _ (HR.out.below HV3.out) (HQ.out.below HV3.out)).mono ?_; rintro e w4 ⟨rfl, hb⟩; rw [HNB.out]; clear f0 f1 q0 q1 q2 a0 a1 a2 a3 a4 a5 a6 a7 a8; have hz : w.heap.size + 3 ≤ _ := q3; clear q3; have HB4 := Lib.hid (HB3.out.trans (hb.mono hz)); clear hb hz; obtain ⟨⟨f0, f1⟩, ⟨q0, q1, q2⟩, ⟨a0, a1, a2, a3, a4, a5, a6, a7, a8⟩, q3, q4⟩ := HBX.out _ HB4.out; have HV4 := Lib.hid q4; clear q4))
              | (go_at_call 33; go_must (refine (refConds_c A c ⟨tn, cols, keys⟩ ⟨qt, fr, tt, wh, qc, qd, ql, qf, qo, AF, cF, AT, cT, AW, cW, AC, cC⟩ _ (HR.out.below HV4.out) (HQ.out.below HV4.out) (HNO.out (by trivial))).mono ?_; rintro e w5 ⟨rfl, hb⟩; rw [HCB.out]; clear f0 f1 q0 q1 q2 a0 a1 a2 a3 a4 a5 a6 a7 a8; have hz : w.heap.size + 3 ≤ _ := q3; clear q3; have HB5 := Lib.hid (HB4.out.trans (hb.mono hz)); clear hb hz; obtain ⟨⟨f0, f1⟩, ⟨q0, q1, q2⟩, ⟨a0, a1, a2, a3, a4, a5, a6, a7, a8⟩, q3, q4⟩ := HBX.out _ HB5.out; have HV5 := Lib.hid q4; clear q4)))
            go_ret
            exact ⟨ret_eq (by rw [HCQ.out]; rfl), HV4.out⟩
          · rw [if_neg (by decide)] at HCQ
            by_cases z4 : (cb && fb) = false
            · have HRV := Lib.hid (show R = 261 by
                rw [HCQ.out]
                rcases (andB cb fb).1 z4 with h | h
                · rw [if_pos h]
                · by_cases h' : cb = false
                  · rw [if_pos h']
                  · rw [if_neg h', if_pos h])
              rw [z4] at HCB
              clear z4
              go_enter Tryz.func13, Tryz.ntmps13
              go_upto_region 1 with fail
              rw [HW0.out]
              go_upto_region 9 with (first
                | (go_at_call 31; go_must (refine (refCheck25_c pg wd A c ⟨tn, cols, keys⟩ _ (HR.out.below HV0.out)).mono ?_; rintro e w1 ⟨rfl, hb⟩; rw [HCT.out]; clear f0 f1 q0 q1 q2 a0 a1 a2 a3 a4 a5 a6 a7 a8; have hz : w.heap.size + 3 ≤ _ := q3; clear q3; have HB1 := Lib.hid (HB0.out.trans (hb.mono hz)); clear hb hz; obtain ⟨⟨f0, f1⟩, ⟨q0, q1, q2⟩, ⟨a0, a1, a2, a3, a4, a5, a6, a7, a8⟩, q3, q4⟩ := HBX.out _ HB1.out; have HV1 := Lib.hid q4; clear q4))
                | (go_at_call 26; refine (refBounds_c pg wd A c ⟨tn, cols, keys⟩ AF cF fr _ (HR.out.below HV1.out) (HQ.out.below HV1.out).fr).mono ?_; rintro e w2 ⟨rfl, hb⟩; rw [HBF.out]; clear f0 f1 q0 q1 q2 a0 a1 a2 a3 a4 a5 a6 a7 a8; have hz : w.heap.size + 3 ≤ _ := q3; clear q3; have HB2 := Lib.hid (HB1.out.trans (hb.mono hz)); clear hb hz; obtain ⟨⟨f0, f1⟩, ⟨q0, q1, q2⟩, ⟨a0, a1, a2, a3, a4, a5, a6, a7, a8⟩, q3, q4⟩ := HBX.out _ HB2.out; have HV2 := Lib.hid q4; clear q4))
              go_wp2_with (first
                | (go_at_call 26; refine (refBounds_c pg wd A c ⟨tn, cols, keys⟩ AT cT tt _ (HR.out.below HV2.out) (HQ.out.below HV2.out).tt).mono ?_; rintro e w3 ⟨rfl, hb⟩; rw [HBT.out]; clear f0 f1 q0 q1 q2 a0 a1 a2 a3 a4 a5 a6 a7 a8; have hz : w.heap.size + 3 ≤ _ := q3; clear q3; have HB3 := Lib.hid (HB2.out.trans (hb.mono hz)); clear hb hz; obtain ⟨⟨f0, f1⟩, ⟨q0, q1, q2⟩, ⟨a0, a1, a2, a3, a4, a5, a6, a7, a8⟩, q3, q4⟩ := HBX.out _ HB3.out; have HV3 := Lib.hid q4; clear q4)
                | (go_at_call 32; go_must (refine (refCols_c A c ⟨tn, cols, keys⟩ ⟨qt, fr, tt, wh, qc, qd, ql, qf, qo, AF, cF, AT, cT, AW, cW, AC, cC⟩ _ (HR.out.below HV3.out) (HQ.out.below HV3.out)).mono ?_; rintro e w4 ⟨rfl, hb⟩; rw [HNB.out]; clear f0 f1 q0 q1 q2 a0 a1 a2 a3 a4 a5 a6 a7 a8; have hz : w.heap.size + 3 ≤ _ := q3; clear q3; have HB4 := Lib.hid (HB3.out.trans (hb.mono hz)); clear hb hz; obtain ⟨⟨f0, f1⟩, ⟨q0, q1, q2⟩, ⟨a0, a1, a2, a3, a4, a5, a6, a7, a8⟩, q3, q4⟩ := HBX.out _ HB4.out; have HV4 := Lib.hid q4; clear q4))
                | (go_at_call 33; go_must (refine (refConds_c A c ⟨tn, cols, keys⟩ ⟨qt, fr, tt, wh, qc, qd, ql, qf, qo, AF, cF, AT, cT, AW, cW, AC, cC⟩ _ (HR.out.below HV4.out) (HQ.out.below HV4.out) (HNO.out (by trivial))).mono ?_; rintro e w5 ⟨rfl, hb⟩; rw [HCB.out]; clear f0 f1 q0 q1 q2 a0 a1 a2 a3 a4 a5 a6 a7 a8; have hz : w.heap.size + 3 ≤ _ := q3; clear q3; have HB5 := Lib.hid (HB4.out.trans (hb.mono hz)); clear hb hz; obtain ⟨⟨f0, f1⟩, ⟨q0, q1, q2⟩, ⟨a0, a1, a2, a3, a4, a5, a6, a7, a8⟩, q3, q4⟩ := HBX.out _ HB5.out; have HV5 := Lib.hid q4; clear q4)))
              go_ret
              exact ⟨ret_eq (by rw [HRV.out]; rfl), HV5.out⟩
            · have z5 : (cb && fb) = true := by simpa using z4
              rw [z5] at HCB
              rw [Bool.and_eq_true] at z5
              rw [if_neg (by rw [z5.1]; decide), if_neg (by rw [z5.2]; decide)] at HCQ
              clear z4 z5
              by_cases z6 : ql < 0
              · rw [if_pos z6] at HCQ
                go_enter Tryz.func13, Tryz.ntmps13
                go_upto_region 1 with fail
                rw [HW0.out]
                go_upto_region 9 with (first
                  | (go_at_call 31; go_must (refine (refCheck25_c pg wd A c ⟨tn, cols, keys⟩ _ (HR.out.below HV0.out)).mono ?_; rintro e w1 ⟨rfl, hb⟩; rw [HCT.out]; clear f0 f1 q0 q1 q2 a0 a1 a2 a3 a4 a5 a6 a7 a8; have hz : w.heap.size + 3 ≤ _ := q3; clear q3; have HB1 := Lib.hid (HB0.out.trans (hb.mono hz)); clear hb hz; obtain ⟨⟨f0, f1⟩, ⟨q0, q1, q2⟩, ⟨a0, a1, a2, a3, a4, a5, a6, a7, a8⟩, q3, q4⟩ := HBX.out _ HB1.out; have HV1 := Lib.hid q4; clear q4))
                  | (go_at_call 26; refine (refBounds_c pg wd A c ⟨tn, cols, keys⟩ AF cF fr _ (HR.out.below HV1.out) (HQ.out.below HV1.out).fr).mono ?_; rintro e w2 ⟨rfl, hb⟩; rw [HBF.out]; clear f0 f1 q0 q1 q2 a0 a1 a2 a3 a4 a5 a6 a7 a8; have hz : w.heap.size + 3 ≤ _ := q3; clear q3; have HB2 := Lib.hid (HB1.out.trans (hb.mono hz)); clear hb hz; obtain ⟨⟨f0, f1⟩, ⟨q0, q1, q2⟩, ⟨a0, a1, a2, a3, a4, a5, a6, a7, a8⟩, q3, q4⟩ := HBX.out _ HB2.out; have HV2 := Lib.hid q4; clear q4))
                go_wp2_with (first
                  | (go_at_call 26; refine (refBounds_c pg wd A c ⟨tn, cols, keys⟩ AT cT tt _ (HR.out.below HV2.out) (HQ.out.below HV2.out).tt).mono ?_; rintro e w3 ⟨rfl, hb⟩; rw [HBT.out]; clear f0 f1 q0 q1 q2 a0 a1 a2 a3 a4 a5 a6 a7 a8; have hz : w.heap.size + 3 ≤ _ := q3; clear q3; have HB3 := Lib.hid (HB2.out.trans (hb.mono hz)); clear hb hz; obtain ⟨⟨f0, f1⟩, ⟨q0, q1, q2⟩, ⟨a0, a1, a2, a3, a4, a5, a6, a7, a8⟩, q3, q4⟩ := HBX.out _ HB3.out; have HV3 := Lib.hid q4; clear q4)
                  | (go_at_call 32; go_must (refine (refCols_c A c ⟨tn, cols, keys⟩ ⟨qt, fr, tt, wh, qc, qd, ql, qf, qo, AF, cF, AT, cT, AW, cW, AC, cC⟩ _ (HR.out.below HV3.out) (HQ.out.below HV3.out)).mono ?_; rintro e w4 ⟨rfl, hb⟩; rw [HNB.out]; clear f0 f1 q0 q1 q2 a0 a1 a2 a3 a4 a5 a6 a7 a8; have hz : w.heap.size + 3 ≤ _ := q3; clear q3; have HB4 := Lib.hid (HB3.out.trans (hb.mono hz)); clear hb hz; obtain ⟨⟨f0, f1⟩, ⟨q0, q1, q2⟩, ⟨a0, a1, a2, a3, a4, a5, a6, a7, a8⟩, q3, q4⟩ := HBX.out _ HB4.out; have HV4 := Lib.hid q4; clear q4))
                  | (go_at_call 33; go_must (refine (refConds_c A c ⟨tn, cols, keys⟩ ⟨qt, fr, tt, wh, qc, qd, ql, qf, qo, AF, cF, AT, cT, AW, cW, AC, cC⟩ _ (HR.out.below HV4.out) (HQ.out.below HV4.out) (HNO.out (by trivial))).mono ?_; rintro e w5 ⟨rfl, hb⟩; rw [HCB.out]; clear f0 f1 q0 q1 q2 a0 a1 a2 a3 a4 a5 a6 a7 a8; have hz : w.heap.size + 3 ≤ _ := q3; clear q3; have HB5 := Lib.hid (HB4.out.trans (hb.mono hz)); clear hb hz; obtain ⟨⟨f0, f1⟩, ⟨q0, q1, q2⟩, ⟨a0, a1, a2, a3, a4, a5, a6, a7, a8⟩, q3, q4⟩ := HBX.out _ HB5.out; have HV5 := Lib.hid q4; clear q4)))
                go_ret
                exact ⟨ret_eq (by rw [HCQ.out]; rfl), HV5.out⟩
              · rw [if_neg z6] at HCQ
                go_enter Tryz.func13, Tryz.ntmps13
                go_upto_region 1 with fail
                rw [HW0.out]
                go_upto_region 9 with (first
                  | (go_at_call 31; go_must (refine (refCheck25_c pg wd A c ⟨tn, cols, keys⟩ _ (HR.out.below HV0.out)).mono ?_; rintro e w1 ⟨rfl, hb⟩; rw [HCT.out]; clear f0 f1 q0 q1 q2 a0 a1 a2 a3 a4 a5 a6 a7 a8; have hz : w.heap.size + 3 ≤ _ := q3; clear q3; have HB1 := Lib.hid (HB0.out.trans (hb.mono hz)); clear hb hz; obtain ⟨⟨f0, f1⟩, ⟨q0, q1, q2⟩, ⟨a0, a1, a2, a3, a4, a5, a6, a7, a8⟩, q3, q4⟩ := HBX.out _ HB1.out; have HV1 := Lib.hid q4; clear q4))
                  | (go_at_call 26; refine (refBounds_c pg wd A c ⟨tn, cols, keys⟩ AF cF fr _ (HR.out.below HV1.out) (HQ.out.below HV1.out).fr).mono ?_; rintro e w2 ⟨rfl, hb⟩; rw [HBF.out]; clear f0 f1 q0 q1 q2 a0 a1 a2 a3 a4 a5 a6 a7 a8; have hz : w.heap.size + 3 ≤ _ := q3; clear q3; have HB2 := Lib.hid (HB1.out.trans (hb.mono hz)); clear hb hz; obtain ⟨⟨f0, f1⟩, ⟨q0, q1, q2⟩, ⟨a0, a1, a2, a3, a4, a5, a6, a7, a8⟩, q3, q4⟩ := HBX.out _ HB2.out; have HV2 := Lib.hid q4; clear q4))
                go_wp2_with (first
                  | (go_at_call 26; refine (refBounds_c pg wd A c ⟨tn, cols, keys⟩ AT cT tt _ (HR.out.below HV2.out) (HQ.out.below HV2.out).tt).mono ?_; rintro e w3 ⟨rfl, hb⟩; rw [HBT.out]; clear f0 f1 q0 q1 q2 a0 a1 a2 a3 a4 a5 a6 a7 a8; have hz : w.heap.size + 3 ≤ _ := q3; clear q3; have HB3 := Lib.hid (HB2.out.trans (hb.mono hz)); clear hb hz; obtain ⟨⟨f0, f1⟩, ⟨q0, q1, q2⟩, ⟨a0, a1, a2, a3, a4, a5, a6, a7, a8⟩, q3, q4⟩ := HBX.out _ HB3.out; have HV3 := Lib.hid q4; clear q4)
                  | (go_at_call 32; go_must (refine (refCols_c A c ⟨tn, cols, keys⟩ ⟨qt, fr, tt, wh, qc, qd, ql, qf, qo, AF, cF, AT, cT, AW, cW, AC, cC⟩ _ (HR.out.below HV3.out) (HQ.out.below HV3.out)).mono ?_; rintro e w4 ⟨rfl, hb⟩; rw [HNB.out]; clear f0 f1 q0 q1 q2 a0 a1 a2 a3 a4 a5 a6 a7 a8; have hz : w.heap.size + 3 ≤ _ := q3; clear q3; have HB4 := Lib.hid (HB3.out.trans (hb.mono hz)); clear hb hz; obtain ⟨⟨f0, f1⟩, ⟨q0, q1, q2⟩, ⟨a0, a1, a2, a3, a4, a5, a6, a7, a8⟩, q3, q4⟩ := HBX.out _ HB4.out; have HV4 := Lib.hid q4; clear q4))
                  | (go_at_call 33; go_must (refine (refConds_c A c ⟨tn, cols, keys⟩ ⟨qt, fr, tt, wh, qc, qd, ql, qf, qo, AF, cF, AT, cT, AW, cW, AC, cC⟩ _ (HR.out.below HV4.out) (HQ.out.below HV4.out) (HNO.out (by trivial))).mono ?_; rintro e w5 ⟨rfl, hb⟩; rw [HCB.out]; clear f0 f1 q0 q1 q2 a0 a1 a2 a3 a4 a5 a6 a7 a8; have hz : w.heap.size + 3 ≤ _ := q3; clear q3; have HB5 := Lib.hid (HB4.out.trans (hb.mono hz)); clear hb hz; obtain ⟨⟨f0, f1⟩, ⟨q0, q1, q2⟩, ⟨a0, a1, a2, a3, a4, a5, a6, a7, a8⟩, q3, q4⟩ := HBX.out _ HB5.out; have HV5 := Lib.hid q4; clear q4)))
                go_ret
                exact ⟨ret_eq (by rw [HCQ.out]; rfl), HV5.out⟩
        · rw [if_pos z3] at HCQ
          have e3 := nz z3
          clear z3
          go_enter Tryz.func13, Tryz.ntmps13
          go_upto_region 1 with fail
          rw [HW0.out]
          go_upto_region 9 with (first
            | (go_at_call 31; go_must (refine (refCheck25_c pg wd A c ⟨tn, cols, keys⟩ _ (HR.out.below HV0.out)).mono ?_; rintro e w1 ⟨rfl, hb⟩; rw [HCT.out]; clear f0 f1 q0 q1 q2 a0 a1 a2 a3 a4 a5 a6 a7 a8; have hz : w.heap.size + 3 ≤ _ := q3; clear q3; have HB1 := Lib.hid (HB0.out.trans (hb.mono hz)); clear hb hz; obtain ⟨⟨f0, f1⟩, ⟨q0, q1, q2⟩, ⟨a0, a1, a2, a3, a4, a5, a6, a7, a8⟩, q3, q4⟩ := HBX.out _ HB1.out; have HV1 := Lib.hid q4; clear q4))
            | (go_at_call 26; refine (refBounds_c pg wd A c ⟨tn, cols, keys⟩ AF cF fr _ (HR.out.below HV1.out) (HQ.out.below HV1.out).fr).mono ?_; rintro e w2 ⟨rfl, hb⟩; rw [HBF.out]; clear f0 f1 q0 q1 q2 a0 a1 a2 a3 a4 a5 a6 a7 a8; have hz : w.heap.size + 3 ≤ _ := q3; clear q3; have HB2 := Lib.hid (HB1.out.trans (hb.mono hz)); clear hb hz; obtain ⟨⟨f0, f1⟩, ⟨q0, q1, q2⟩, ⟨a0, a1, a2, a3, a4, a5, a6, a7, a8⟩, q3, q4⟩ := HBX.out _ HB2.out; have HV2 := Lib.hid q4; clear q4))
          go_wp2_with (first
            | (go_at_call 26; refine (refBounds_c pg wd A c ⟨tn, cols, keys⟩ AT cT tt _ (HR.out.below HV2.out) (HQ.out.below HV2.out).tt).mono ?_; rintro e w3 ⟨rfl, hb⟩; rw [HBT.out]; clear f0 f1 q0 q1 q2 a0 a1 a2 a3 a4 a5 a6 a7 a8; have hz : w.heap.size + 3 ≤ _ := q3; clear q3; have HB3 := Lib.hid (HB2.out.trans (hb.mono hz)); clear hb hz; obtain ⟨⟨f0, f1⟩, ⟨q0, q1, q2⟩, ⟨a0, a1, a2, a3, a4, a5, a6, a7, a8⟩, q3, q4⟩ := HBX.out _ HB3.out; have HV3 := Lib.hid q4; clear q4)
            | (go_at_call 32; go_must (refine (refCols_c A c ⟨tn, cols, keys⟩ ⟨qt, fr, tt, wh, qc, qd, ql, qf, qo, AF, cF, AT, cT, AW, cW, AC, cC⟩ _ (HR.out.below HV3.out) (HQ.out.below HV3.out)).mono ?_; rintro e w4 ⟨rfl, hb⟩; rw [HNB.out]; clear f0 f1 q0 q1 q2 a0 a1 a2 a3 a4 a5 a6 a7 a8; have hz : w.heap.size + 3 ≤ _ := q3; clear q3; have HB4 := Lib.hid (HB3.out.trans (hb.mono hz)); clear hb hz; obtain ⟨⟨f0, f1⟩, ⟨q0, q1, q2⟩, ⟨a0, a1, a2, a3, a4, a5, a6, a7, a8⟩, q3, q4⟩ := HBX.out _ HB4.out; have HV4 := Lib.hid q4; clear q4))
            | (go_at_call 33; go_must (refine (refConds_c A c ⟨tn, cols, keys⟩ ⟨qt, fr, tt, wh, qc, qd, ql, qf, qo, AF, cF, AT, cT, AW, cW, AC, cC⟩ _ (HR.out.below HV4.out) (HQ.out.below HV4.out) (HNO.out (by trivial))).mono ?_; rintro e w5 ⟨rfl, hb⟩; rw [HCB.out]; clear f0 f1 q0 q1 q2 a0 a1 a2 a3 a4 a5 a6 a7 a8; have hz : w.heap.size + 3 ≤ _ := q3; clear q3; have HB5 := Lib.hid (HB4.out.trans (hb.mono hz)); clear hb hz; obtain ⟨⟨f0, f1⟩, ⟨q0, q1, q2⟩, ⟨a0, a1, a2, a3, a4, a5, a6, a7, a8⟩, q3, q4⟩ := HBX.out _ HB5.out; have HV5 := Lib.hid q4; clear q4)))
          go_ret
          exact ⟨ret_eq (by rw [HCQ.out]; rfl), HV3.out⟩
      · rw [if_pos z2] at HCQ
        have e2 := nz z2
        clear z2
        go_enter Tryz.func13, Tryz.ntmps13
        go_upto_region 1 with fail
        rw [HW0.out]
        go_wp2_with (first
          | (go_at_call 31; go_must (refine (refCheck25_c pg wd A c ⟨tn, cols, keys⟩ _ (HR.out.below HV0.out)).mono ?_; rintro e w1 ⟨rfl, hb⟩; rw [HCT.out]; clear f0 f1 q0 q1 q2 a0 a1 a2 a3 a4 a5 a6 a7 a8; have hz : w.heap.size + 3 ≤ _ := q3; clear q3; have HB1 := Lib.hid (HB0.out.trans (hb.mono hz)); clear hb hz; obtain ⟨⟨f0, f1⟩, ⟨q0, q1, q2⟩, ⟨a0, a1, a2, a3, a4, a5, a6, a7, a8⟩, q3, q4⟩ := HBX.out _ HB1.out; have HV1 := Lib.hid q4; clear q4))
          | (go_at_call 26; refine (refBounds_c pg wd A c ⟨tn, cols, keys⟩ AF cF fr _ (HR.out.below HV1.out) (HQ.out.below HV1.out).fr).mono ?_; rintro e w2 ⟨rfl, hb⟩; rw [HBF.out]; clear f0 f1 q0 q1 q2 a0 a1 a2 a3 a4 a5 a6 a7 a8; have hz : w.heap.size + 3 ≤ _ := q3; clear q3; have HB2 := Lib.hid (HB1.out.trans (hb.mono hz)); clear hb hz; obtain ⟨⟨f0, f1⟩, ⟨q0, q1, q2⟩, ⟨a0, a1, a2, a3, a4, a5, a6, a7, a8⟩, q3, q4⟩ := HBX.out _ HB2.out; have HV2 := Lib.hid q4; clear q4))
        go_ret
        exact ⟨ret_eq (by rw [HCQ.out]; rfl), HV2.out⟩
  · rw [if_pos z1] at HCQ
    have e1 := nz z1
    clear z1
    go_enter Tryz.func13, Tryz.ntmps13
    go_upto_region 1 with fail
    rw [HW0.out]
    go_wp2_with (first
      | (go_at_call 31; go_must (refine (refCheck25_c pg wd A c ⟨tn, cols, keys⟩ _ (HR.out.below HV0.out)).mono ?_; rintro e w1 ⟨rfl, hb⟩; rw [HCT.out]; clear f0 f1 q0 q1 q2 a0 a1 a2 a3 a4 a5 a6 a7 a8; have hz : w.heap.size + 3 ≤ _ := q3; clear q3; have HB1 := Lib.hid (HB0.out.trans (hb.mono hz)); clear hb hz; obtain ⟨⟨f0, f1⟩, ⟨q0, q1, q2⟩, ⟨a0, a1, a2, a3, a4, a5, a6, a7, a8⟩, q3, q4⟩ := HBX.out _ HB1.out; have HV1 := Lib.hid q4; clear q4))
      | (go_at_call 26; refine (refBounds_c pg wd A c ⟨tn, cols, keys⟩ AF cF fr _ (HR.out.below HV1.out) (HQ.out.below HV1.out).fr).mono ?_; rintro e w2 ⟨rfl, hb⟩; rw [HBF.out]; clear f0 f1 q0 q1 q2 a0 a1 a2 a3 a4 a5 a6 a7 a8; have hz : w.heap.size + 3 ≤ _ := q3; clear q3; have HB2 := Lib.hid (HB1.out.trans (hb.mono hz)); clear hb hz; obtain ⟨⟨f0, f1⟩, ⟨q0, q1, q2⟩, ⟨a0, a1, a2, a3, a4, a5, a6, a7, a8⟩, q3, q4⟩ := HBX.out _ HB2.out; have HV2 := Lib.hid q4; clear q4))
    go_ret
    exact ⟨ret_eq (by rw [HCQ.out]; rfl), HV1.out⟩
theorem refSpan_c (pg wd : Int) (A : Option Addr) (c : Nat) (t : TabD) (q : QryV) (w : World) (hR : RdT w A c t) (hQ : RdQ w q) :
    Calls Tryz.prog 11 #[vF pg wd, vT t A c, q.val] w fun e w' => e = .returned (.tuple #[.string ⟨(spanR pg wd t q).1.toArray⟩, .string ⟨(spanR pg wd t q).2.1.toArray⟩, .int .i64 (spanR pg wd t q).2.2]) ∧ Below w.heap.size w w' := by
  have HR := Lib.hid hR
  have HQ := Lib.hid hQ
  have htb := hQ.tt.hb
  rcases t with ⟨tn, cols, keys⟩
  rcases q with ⟨qt, fr, tt, wh, qc, qd, ql, qf, qo, AF, cF, AT, cT, AW, cW, AC, cC⟩
  simp only [QryV.val, QryV.cells] at htb ⊢
  obtain ⟨W0, hW0⟩ : ∃ W0, ((w.alloc (.cells #[.int .i64 pg, .int .i64 wd] 24)).alloc (.cells #[.string tn, .slice A cols.length c, .int .i64 keys] 27)).alloc (.cells #[.string qt, .slice AF fr.length cF, .slice AT tt.length cT, .slice AW wh.length cW, .slice AC qc.length cC, .bool qd, .int .i64 ql, .int .u8 qf, .string qo] 33) = W0 := ⟨_, rfl⟩
  have HW0 := Lib.hid hW0
  have HBX := Lib.hid (fun W (h : Below (w.heap.size + 3) W0 W) => boxes_fq (hW0 ▸ h))
  have HSP := Lib.hid (show spanR pg wd ⟨tn, cols, keys⟩ ⟨qt, fr, tt, wh, qc, qd, ql, qf, qo, AF, cF, AT, cT, AW, cW, AC, cC⟩ = if chkQ pg wd ⟨tn, cols, keys⟩ ⟨qt, fr, tt, wh, qc, qd, ql, qf, qo, AF, cF, AT, cT, AW, cW, AC, cC⟩ ≠ 0 then ([], [], chkQ pg wd ⟨tn, cols, keys⟩ ⟨qt, fr, tt, wh, qc, qd, ql, qf, qo, AF, cF, AT, cT, AW, cW, AC, cC⟩) else ((bndR pg wd ⟨tn, cols, keys⟩ (VI.dataL fr)).1, if 0 < tt.length then (bndR pg wd ⟨tn, cols, keys⟩ (VI.dataL tt)).1 else (bndR pg wd ⟨tn, cols, keys⟩ []).2.1, 0) from rfl)
  clear hR hQ hW0
  obtain ⟨cq, hcq⟩ : ∃ n, chkQ pg wd ⟨tn, cols, keys⟩ ⟨qt, fr, tt, wh, qc, qd, ql, qf, qo, AF, cF, AT, cT, AW, cW, AC, cC⟩ = n := ⟨_, rfl⟩
  obtain ⟨bf, hbf⟩ : ∃ n, bndR pg wd ⟨tn, cols, keys⟩ (VI.dataL fr) = n := ⟨_, rfl⟩
  obtain ⟨bt, hbt⟩ : ∃ n, bndR pg wd ⟨tn, cols, keys⟩ (VI.dataL tt) = n := ⟨_, rfl⟩
  obtain ⟨bn, hbn⟩ : ∃ n, bndR pg wd ⟨tn, cols, keys⟩ [] = n := ⟨_, rfl⟩
  rw [hcq, hbf, hbt, hbn] at HSP
  have HCQ := Lib.hid hcq
  have HBF := Lib.hid hbf
  have HBT := Lib.hid hbt
  have HBN := Lib.hid (show bndR pg wd ⟨tn, cols, keys⟩ (VI.dataL []) = bn by rw [← hbn, VI.dataL])
  clear hcq hbf hbt hbn
  rcases bf with ⟨bf0, bf1, bfe⟩
  rcases bt with ⟨bt0, bt1, bte⟩
  rcases bn with ⟨bn0, bn1, bne⟩
  simp only at HSP
  obtain ⟨R, hRR⟩ : ∃ n, spanR pg wd ⟨tn, cols, keys⟩ ⟨qt, fr, tt, wh, qc, qd, ql, qf, qo, AF, cF, AT, cT, AW, cW, AC, cC⟩ = n := ⟨_, rfl⟩
  rw [hRR] at HSP ⊢
  clear hRR
  have HB0 := Lib.hid (Below.refl (w.heap.size + 3) W0)
  obtain ⟨⟨f0, f1⟩, ⟨q0, q1, q2⟩, ⟨a0, a1, a2, a3, a4, a5, a6, a7, a8⟩, q3, q4⟩ := HBX.out _ HB0.out
  have HV0 := Lib.hid q4
  clear q4
  by_cases z1 : cq = 0
  · rw [if_neg (by rw [z1]; decide)] at HSP
    have e1 := zz z1
    clear z1
    by_cases hlt : 0 < tt.length
    · have e2 : ((tt.length : Int) == 0) = false := by rw [beq_eq_false_iff_ne]; omega
      rw [if_pos hlt] at HSP
      go_enter Tryz.func11, Tryz.ntmps11
      go_upto_region 1 with fail
      rw [HW0.out]
      go_upto_region 5 with (first
        | (go_at_call 13; go_must (refine (refCheck26_c pg wd A c ⟨tn, cols, keys⟩ ⟨qt, fr, tt, wh, qc, qd, ql, qf, qo, AF, cF, AT, cT, AW, cW, AC, cC⟩ _ (HR.out.below HV0.out) (HQ.out.below HV0.out)).mono ?_; rintro e w1 ⟨rfl, hb⟩; rw [HCQ.out]; clear f0 f1 q0 q1 q2 a0 a1 a2 a3 a4 a5 a6 a7 a8; have hz : w.heap.size + 3 ≤ _ := q3; clear q3; have HB1 := Lib.hid (HB0.out.trans (hb.mono hz)); clear hb hz; obtain ⟨⟨f0, f1⟩, ⟨q0, q1, q2⟩, ⟨a0, a1, a2, a3, a4, a5, a6, a7, a8⟩, q3, q4⟩ := HBX.out _ HB1.out; have HV1 := Lib.hid q4; clear q4))
        | (go_at_call 26; refine (refBounds_c pg wd A c ⟨tn, cols, keys⟩ AF cF fr _ (HR.out.below HV1.out) (HQ.out.below HV1.out).fr).mono ?_; rintro e w2 ⟨rfl, hb⟩; rw [HBF.out]; clear f0 f1 q0 q1 q2 a0 a1 a2 a3 a4 a5 a6 a7 a8; have hz : w.heap.size + 3 ≤ _ := q3; clear q3; have HB2 := Lib.hid (HB1.out.trans (hb.mono hz)); clear hb hz; obtain ⟨⟨f0, f1⟩, ⟨q0, q1, q2⟩, ⟨a0, a1, a2, a3, a4, a5, a6, a7, a8⟩, q3, q4⟩ := HBX.out _ HB2.out; have HV2 := Lib.hid q4; clear q4))
      go_wp2_with (first
        | (go_at_call 26; refine (refBounds_c pg wd A c ⟨tn, cols, keys⟩ AT cT tt _ (HR.out.below HV2.out) (HQ.out.below HV2.out).tt).mono ?_; rintro e w3 ⟨rfl, hb⟩; rw [HBT.out]; clear f0 f1 q0 q1 q2 a0 a1 a2 a3 a4 a5 a6 a7 a8; have hz : w.heap.size + 3 ≤ _ := q3; clear q3; have HB3 := Lib.hid (HB2.out.trans (hb.mono hz)); clear hb hz; obtain ⟨⟨f0, f1⟩, ⟨q0, q1, q2⟩, ⟨a0, a1, a2, a3, a4, a5, a6, a7, a8⟩, q3, q4⟩ := HBX.out _ HB3.out; have HV3 := Lib.hid q4; clear q4))
      go_ret3
      exact ⟨ret_eq (by rw [HSP.out]; rfl), HV3.out⟩
    · have e2 : ((tt.length : Int) == 0) = true := by rw [beq_iff_eq]; omega
      rw [if_neg hlt] at HSP
      go_enter Tryz.func11, Tryz.ntmps11
      go_upto_region 1 with fail
      rw [HW0.out]
      go_upto_region 5 with (first
        | (go_at_call 13; go_must (refine (refCheck26_c pg wd A c ⟨tn, cols, keys⟩ ⟨qt, fr, tt, wh, qc, qd, ql, qf, qo, AF, cF, AT, cT, AW, cW, AC, cC⟩ _ (HR.out.below HV0.out) (HQ.out.below HV0.out)).mono ?_; rintro e w1 ⟨rfl, hb⟩; rw [HCQ.out]; clear f0 f1 q0 q1 q2 a0 a1 a2 a3 a4 a5 a6 a7 a8; have hz : w.heap.size + 3 ≤ _ := q3; clear q3; have HB1 := Lib.hid (HB0.out.trans (hb.mono hz)); clear hb hz; obtain ⟨⟨f0, f1⟩, ⟨q0, q1, q2⟩, ⟨a0, a1, a2, a3, a4, a5, a6, a7, a8⟩, q3, q4⟩ := HBX.out _ HB1.out; have HV1 := Lib.hid q4; clear q4))
        | (go_at_call 26; refine (refBounds_c pg wd A c ⟨tn, cols, keys⟩ AF cF fr _ (HR.out.below HV1.out) (HQ.out.below HV1.out).fr).mono ?_; rintro e w2 ⟨rfl, hb⟩; rw [HBF.out]; clear f0 f1 q0 q1 q2 a0 a1 a2 a3 a4 a5 a6 a7 a8; have hz : w.heap.size + 3 ≤ _ := q3; clear q3; have HB2 := Lib.hid (HB1.out.trans (hb.mono hz)); clear hb hz; obtain ⟨⟨f0, f1⟩, ⟨q0, q1, q2⟩, ⟨a0, a1, a2, a3, a4, a5, a6, a7, a8⟩, q3, q4⟩ := HBX.out _ HB2.out; have HV2 := Lib.hid q4; clear q4))
      go_upto_region 7 with (first
        | (go_at_call 26; refine (refBounds_c pg wd A c ⟨tn, cols, keys⟩ AT cT tt _ (HR.out.below HV2.out) (HQ.out.below HV2.out).tt).mono ?_; rintro e w3 ⟨rfl, hb⟩; rw [HBT.out]; clear f0 f1 q0 q1 q2 a0 a1 a2 a3 a4 a5 a6 a7 a8; have hz : w.heap.size + 3 ≤ _ := q3; clear q3; have HB3 := Lib.hid (HB2.out.trans (hb.mono hz)); clear hb hz; obtain ⟨⟨f0, f1⟩, ⟨q0, q1, q2⟩, ⟨a0, a1, a2, a3, a4, a5, a6, a7, a8⟩, q3, q4⟩ := HBX.out _ HB3.out; have HV3 := Lib.hid q4; clear q4))
      go_wp2_with (first
        | (go_at_call 26; refine (refBounds_c pg wd A c ⟨tn, cols, keys⟩ none 0 [] _ (HR.out.below HV3.out) (RdI.nil _ _)).mono ?_; rintro e w4 ⟨rfl, hb⟩; rw [HBN.out]; clear f0 f1 q0 q1 q2 a0 a1 a2 a3 a4 a5 a6 a7 a8; have hz : w.heap.size + 3 ≤ _ := q3; clear q3; have HB4 := Lib.hid (HB3.out.trans (hb.mono hz)); clear hb hz; obtain ⟨⟨f0, f1⟩, ⟨q0, q1, q2⟩, ⟨a0, a1, a2, a3, a4, a5, a6, a7, a8⟩, q3, q4⟩ := HBX.out _ HB4.out; have HV4 := Lib.hid q4; clear q4))
      go_ret3
      exact ⟨ret_eq (by rw [HSP.out]; rfl), HV4.out⟩
  · rw [if_pos z1] at HSP
    have e1 := nz z1
    clear z1
    go_enter Tryz.func11, Tryz.ntmps11
    go_upto_region 1 with fail
    rw [HW0.out]
    go_wp2_with (first
      | (go_at_call 13; go_must (refine (refCheck26_c pg wd A c ⟨tn, cols, keys⟩ ⟨qt, fr, tt, wh, qc, qd, ql, qf, qo, AF, cF, AT, cT, AW, cW, AC, cC⟩ _ (HR.out.below HV0.out) (HQ.out.below HV0.out)).mono ?_; rintro e w1 ⟨rfl, hb⟩; rw [HCQ.out]; clear f0 f1 q0 q1 q2 a0 a1 a2 a3 a4 a5 a6 a7 a8; have hz : w.heap.size + 3 ≤ _ := q3; clear q3; have HB1 := Lib.hid (HB0.out.trans (hb.mono hz)); clear hb hz; obtain ⟨⟨f0, f1⟩, ⟨q0, q1, q2⟩, ⟨a0, a1, a2, a3, a4, a5, a6, a7, a8⟩, q3, q4⟩ := HBX.out _ HB1.out; have HV1 := Lib.hid q4; clear q4)))
    go_ret3
    exact ⟨ret_eq (by rw [HSP.out]; rfl), HV1.out⟩

end Go.Proofs.YtonjgedhmmnolaaGreatDoor
end

section
namespace Go.Proofs.YtonjgedhmmnolaaGreatDoor
open Go.RowKit
set_option maxHeartbeats 3000000
set_option maxRecDepth 100000

theorem checks_law (x : InV) (w : World) (hX : RdX w x) (hc : ∃ m, w.cell? ⟨1, 0, none⟩ = some (.int .i64 m)) : Calls Tryz.prog 4 #[x.val] w fun e w' => e = .returned (.bool true) ∧ Below w.heap.size w w' := by
  have HX := Lib.hid hX
  have HC := Lib.hid hc
  rcases x with ⟨pg, wd, ⟨tn, cols, keys⟩, A, c, ⟨qt, fr, tt, wh, qc, qd, ql, qf, qo, AF, cF, AT, cT, AW, cW, AC, cC⟩, P, AP, cP, AR, nR, cR, pf⟩
  rw [show InV.val ⟨pg, wd, ⟨tn, cols, keys⟩, A, c, ⟨qt, fr, tt, wh, qc, qd, ql, qf, qo, AF, cF, AT, cT, AW, cW, AC, cC⟩, P, AP, cP, AR, nR, cR, pf⟩ = .agg #[.int .i64 pg, .int .i64 wd, .string tn, .slice A cols.length c, .int .i64 keys, .string qt, .slice AF fr.length cF, .slice AT tt.length cT, .slice AW wh.length cW, .slice AC qc.length cC, .bool qd, .int .i64 ql, .int .u8 qf, .string qo, .slice AP P.length cP, .slice AR nR cR, .string pf] from rfl]
  have HR0 := Lib.hid (heap_alloc_new w (.cells #[.int .i64 pg, .int .i64 wd, .string tn, .slice A cols.length c, .int .i64 keys, .string qt, .slice AF fr.length cF, .slice AT tt.length cT, .slice AW wh.length cW, .slice AC qc.length cC, .bool qd, .int .i64 ql, .int .u8 qf, .string qo, .slice AP P.length cP, .slice AR nR cR, .string pf] 37))
  have HB0 := Lib.hid ((Below.refl w.heap.size w).alloc (Nat.le_refl _) (.cells #[.int .i64 pg, .int .i64 wd, .string tn, .slice A cols.length c, .int .i64 keys, .string qt, .slice AF fr.length cF, .slice AT tt.length cT, .slice AW wh.length cW, .slice AC qc.length cC, .bool qd, .int .i64 ql, .int .u8 qf, .string qo, .slice AP P.length cP, .slice AR nR cR, .string pf] 37))
  obtain ⟨W0, hW0⟩ : ∃ W0, w.alloc (.cells #[.int .i64 pg, .int .i64 wd, .string tn, .slice A cols.length c, .int .i64 keys, .string qt, .slice AF fr.length cF, .slice AT tt.length cT, .slice AW wh.length cW, .slice AC qc.length cC, .bool qd, .int .i64 ql, .int .u8 qf, .string qo, .slice AP P.length cP, .slice AR nR cR, .string pf] 37) = W0 := ⟨_, rfl⟩
  have HW0 := Lib.hid hW0
  rw [HW0.out] at HR0 HB0
  clear hX hc hW0
  go_enter Tryz.func4, Tryz.ntmps4
  go_upto_if 11 with (go_at_call 9; go_must (rw [HW0.out]; refine (vast_c ⟨qt, fr, tt, wh, qc, qd, ql, qf, qo, AF, cF, AT, cT, AW, cW, AC, cC⟩ W0 (HX.out.q.below HB0.out)).mono ?_; rintro e w1 ⟨⟨b, rfl⟩, hb⟩; have HR1 := Lib.hid (row_keep' HR0.out hb); have HB1 := Lib.hid (HB0.out.trans (hb.mono HB0.out.size)); clear hb))
  obtain ⟨x0, x1, x2, x3, x4, x5, x6, x7, x8, x9, x10, x11, x12, x13, x14, x15, x16, z0⟩ := in_cells HR1.out
  cases b with
  | true =>
    go_wp2_with (go_at_call 8; go_must (refine (awake_c w1 (cell_keep HC.out (Nat.le_refl _) HB1.out)).mono ?_; rintro e w2 ⟨rfl, hb⟩; have HB2 := Lib.hid (HB1.out.trans (hb.mono HB1.out.size)); clear hb x0 x1 x2 x3 x4 x5 x6 x7 x8 x9 x10 x11 x12 x13 x14 x15 x16 z0))
    go_ret
    exact ⟨rfl, HB2.out⟩
  | false =>
    obtain ⟨sp, hsp⟩ : ∃ r, spanR pg wd ⟨tn, cols, keys⟩ ⟨qt, fr, tt, wh, qc, qd, ql, qf, qo, AF, cF, AT, cT, AW, cW, AC, cC⟩ = r := ⟨_, rfl⟩
    have HSP := Lib.hid hsp
    obtain ⟨ch, hch⟩ : ∃ r, chkQ pg wd ⟨tn, cols, keys⟩ ⟨qt, fr, tt, wh, qc, qd, ql, qf, qo, AF, cF, AT, cT, AW, cW, AC, cC⟩ = r := ⟨_, rfl⟩
    have HCH := Lib.hid hch
    clear hsp hch
    rcases sp with ⟨lo, hi, se⟩
    go_upto_region 5 with (first
      | (go_at_call 10; go_must (refine (Span_query_c pg wd A c ⟨tn, cols, keys⟩ ⟨qt, fr, tt, wh, qc, qd, ql, qf, qo, AF, cF, AT, cT, AW, cW, AC, cC⟩ w1 (HX.out.t.below HB1.out) (HX.out.q.below HB1.out) (cell_keep HC.out (Nat.le_refl _) HB1.out)).mono ?_; rw [HSP.out]; rintro e w2 ⟨rfl, hb⟩; have HR2 := Lib.hid (row_keep' HR1.out hb); have HB2 := Lib.hid (HB1.out.trans (hb.mono HB1.out.size)); clear hb x0 x1 x2 x3 x4 x5 x6 x7 x8 x9 x10 x11 x12 x13 x14 x15 x16 z0; obtain ⟨x0, x1, x2, x3, x4, x5, x6, x7, x8, x9, x10, x11, x12, x13, x14, x15, x16, z0⟩ := in_cells HR2.out))
      | (go_at_call 11; go_must (refine (refSpan_c pg wd A c ⟨tn, cols, keys⟩ ⟨qt, fr, tt, wh, qc, qd, ql, qf, qo, AF, cF, AT, cT, AW, cW, AC, cC⟩ w2 (HX.out.t.below HB2.out) (HX.out.q.below HB2.out)).mono ?_; rw [HSP.out]; rintro e w3 ⟨rfl, hb⟩; have HR3 := Lib.hid (row_keep' HR2.out hb); have HB3 := Lib.hid (HB2.out.trans (hb.mono HB2.out.size)); clear hb x0 x1 x2 x3 x4 x5 x6 x7 x8 x9 x10 x11 x12 x13 x14 x15 x16 z0)))
    refine wp_region_sched (S := fun W => Below w3.heap.size w3 W) [(0, true), (1, true), (2, true), (3, true), (4, true), (5, true), (7, true), (8, true), (9, true), (10, true), (11, true), (12, true), (6, false), (13, false), (14, true), (15, true), (16, true), (17, true), (18, true), (19, true), (20, true), (21, true), (22, true), (23, true), (24, true), (25, true), (26, true), (27, true), (28, true), (29, true), (30, true), (31, false), (32, true), (33, true)] (by kernel_rfl) (by kernel_rfl) (by kernel_rfl) (fun _ _ d _ _ h => by cases d <;> exact h) (Below.refl _ _).drew ?_
    have HD0 := Lib.hid (Below.refl w3.heap.size w3).drew
    repeat (apply sched_take; (exact rfl); rfl; (intro W hW; obtain ⟨x0, x1, x2, x3, x4, x5, x6, x7, x8, x9, x10, x11, x12, x13, x14, x15, x16, z0⟩ := in_cells (row_keep' HR3.out hW); go_simp; (try with_reducible rfl)); simp only [Act.put, List.setIfInBounds_toArray, List.set_cons_zero, List.set_cons_succ])
    apply sched_run; (exact rfl); rfl; intro K hK; go_simp
    refine (Check_query_c pg wd A c ⟨tn, cols, keys⟩ ⟨qt, fr, tt, wh, qc, qd, ql, qf, qo, AF, cF, AT, cT, AW, cW, AC, cC⟩ _ (HX.out.t.below (HB3.out.trans (HD0.out.mono HB3.out.size))) (HX.out.q.below (HB3.out.trans (HD0.out.mono HB3.out.size))) (cell_keep HC.out (Nat.le_refl _) (HB3.out.trans (HD0.out.mono HB3.out.size)))).mono ?_
    rw [HCH.out]
    rintro e V1 ⟨rfl, hb⟩
    have HD1 := Lib.hid (HD0.out.trans (hb.mono (show w3.heap.size ≤ _ from HD0.out.size)))
    clear hb
    refine hK.out _ _ HD1.out (fun _ => ?_)
    clear hK K
    try simp only [Act.put, List.setIfInBounds_toArray, List.set_cons_zero, List.set_cons_succ]
    apply sched_run; (exact rfl); rfl; intro K hK; go_simp
    refine (refCheck26_c pg wd A c ⟨tn, cols, keys⟩ ⟨qt, fr, tt, wh, qc, qd, ql, qf, qo, AF, cF, AT, cT, AW, cW, AC, cC⟩ _ (HX.out.t.below (HB3.out.trans (HD1.out.mono HB3.out.size))) (HX.out.q.below (HB3.out.trans (HD1.out.mono HB3.out.size)))).mono ?_
    rw [HCH.out]
    rintro e V2 ⟨rfl, hb⟩
    have HD2 := Lib.hid (HD1.out.trans (hb.mono (show w3.heap.size ≤ _ from HD1.out.size)))
    clear hb
    refine hK.out _ _ HD2.out (fun _ => ?_)
    clear hK K
    try simp only [Act.put, List.setIfInBounds_toArray, List.set_cons_zero, List.set_cons_succ]
    repeat (apply sched_take; (exact rfl); rfl; (intro W hW; go_simp; (try with_reducible rfl)); simp only [Act.put, List.setIfInBounds_toArray, List.set_cons_zero, List.set_cons_succ])
    apply sched_run; (exact rfl); rfl; intro K hK; go_simp
    refine (awake_c _ (cell_keep HC.out (Nat.le_refl _) (HB3.out.trans (HD2.out.mono HB3.out.size)))).mono ?_
    rintro e V3 ⟨rfl, hb⟩
    have HD3 := Lib.hid (HD2.out.trans (hb.mono (show w3.heap.size ≤ _ from HD2.out.size)))
    clear hb
    refine hK.out _ _ HD3.out (fun _ => ?_)
    clear hK K
    try simp only [Act.put, List.setIfInBounds_toArray, List.set_cons_zero, List.set_cons_succ]
    repeat (apply sched_take; (exact rfl); rfl; (intro W hW; go_simp; (try with_reducible rfl)); simp only [Act.put, List.setIfInBounds_toArray, List.set_cons_zero, List.set_cons_succ])
    refine sched_done ?_
    go_wp2
    go_ret
    exact ⟨rfl, HB3.out.trans (HD3.out.mono HB3.out.size)⟩

end Go.Proofs.YtonjgedhmmnolaaGreatDoor
end
