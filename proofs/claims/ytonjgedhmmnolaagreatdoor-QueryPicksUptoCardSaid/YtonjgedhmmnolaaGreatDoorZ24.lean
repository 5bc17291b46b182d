import Derived.Test.YtonjgedhmmnolaaGreatDoorZ23
namespace Go.Proofs.YtonjgedhmmnolaaGreatDoor
section
open Go.RowKit
set_option maxHeartbeats 6000000
set_option maxRecDepth 100000
theorem andB (a b : Bool) : ((a && b) = false) ↔ (a = false ∨ b = false):=by cases a <;> cases b <;> simp
theorem refCheck26_c [Inhabited Thr] (pg wd : Int) (A : Option Addr) (c : Nat) (t : TabD) (q : QryV) (w : World) (hR : RdT w A c t) (hQ : RdQ w q) :
 Calls Tryz.prog 13 #[vF pg wd,vT t A c,q.val] w fun e w' => e = .returned (.int .i64 (chkQ pg wd t q)) ∧ Below w.heap.size w w':=by
 have HR:=Ld hR
 have HQ:=Ld hQ
 have hll:=hQ.hl
 rcases t with ⟨tn,cols,keys⟩
 rcases q with ⟨qt,fr,tt,wh,qc,qd,ql,qf,qo,AF,cF,AT,cT,AW,cW,AC,cC⟩
 simp only [QryV.val,QryV.cells] at hll ⊢
 obtain ⟨W0,hW0⟩ : ∃ W0,((w.alloc (.cells #[.int .i64 pg,.int .i64 wd] 24)).alloc (.cells #[.string tn,.slice A cols.length c,.int .i64 keys] 27)).alloc (.cells #[.string qt,.slice AF fr.length cF,.slice AT tt.length cT,.slice AW wh.length cW,.slice AC qc.length cC,.bool qd,.int .i64 ql,.int .u8 qf,.string qo] 33) = W0:=⟨_,rfl⟩
 have HW0:=Ld hW0
 have HBX:=Ld (fun W (h : Below (w.heap.size + 3) W0 W) => boxes_fq (hW0 ▸ h))
 have HCQ:=Ld (show chkQ pg wd ⟨tn,cols,keys⟩ ⟨qt,fr,tt,wh,qc,qd,ql,qf,qo,AF,cF,AT,cT,AW,cW,AC,cC⟩ = if chkT pg wd ⟨tn,cols,keys⟩ ≠ 0 then chkT pg wd ⟨tn,cols,keys⟩ else if qt.data.toList ≠ tn.data.toList then 250
  else if (bndR pg wd ⟨tn,cols,keys⟩ (VI.dataL fr)).2.2 ≠ 0 then (bndR pg wd ⟨tn,cols,keys⟩ (VI.dataL fr)).2.2 else if (bndR pg wd ⟨tn,cols,keys⟩ (VI.dataL tt)).2.2 ≠ 0 then (bndR pg wd ⟨tn,cols,keys⟩ (VI.dataL tt)).2.2
  else if namedB ⟨tn,cols,keys⟩ ⟨qt,fr,tt,wh,qc,qd,ql,qf,qo,AF,cF,AT,cT,AW,cW,AC,cC⟩ = false then 260 else if (wh.all condB) = false then 261 else if foldsB ⟨tn,cols,keys⟩ ⟨qt,fr,tt,wh,qc,qd,ql,qf,qo,AF,cF,AT,cT,AW,cW,AC,cC⟩ = false then 261 else if ql < 0 then 2 else 0 from rfl)
 have HEQ:=Ld (eqB qt tn)
 have HNO:=Ld (fun (h : namedB ⟨tn,cols,keys⟩ ⟨qt,fr,tt,wh,qc,qd,ql,qf,qo,AF,cF,AT,cT,AW,cW,AC,cC⟩ = true) (hf : 2 ≤ qf) => named_over h hf)
 clear hR hQ hW0
 obtain ⟨ct,hct⟩ : ∃ n,chkT pg wd ⟨tn,cols,keys⟩ = n:=⟨_,rfl⟩
 obtain ⟨bf,hbf⟩ : ∃ n,bndR pg wd ⟨tn,cols,keys⟩ (VI.dataL fr) = n:=⟨_,rfl⟩
 obtain ⟨bt,hbt⟩ : ∃ n,bndR pg wd ⟨tn,cols,keys⟩ (VI.dataL tt) = n:=⟨_,rfl⟩
 obtain ⟨nb,hnb⟩ : ∃ n,namedB ⟨tn,cols,keys⟩ ⟨qt,fr,tt,wh,qc,qd,ql,qf,qo,AF,cF,AT,cT,AW,cW,AC,cC⟩ = n:=⟨_,rfl⟩
 obtain ⟨cb,hcb⟩ : ∃ n,wh.all condB = n:=⟨_,rfl⟩
 obtain ⟨fb,hfb⟩ : ∃ n,foldsB ⟨tn,cols,keys⟩ ⟨qt,fr,tt,wh,qc,qd,ql,qf,qo,AF,cF,AT,cT,AW,cW,AC,cC⟩ = n:=⟨_,rfl⟩
 obtain ⟨R,hRR⟩ : ∃ n,chkQ pg wd ⟨tn,cols,keys⟩ ⟨qt,fr,tt,wh,qc,qd,ql,qf,qo,AF,cF,AT,cT,AW,cW,AC,cC⟩ = n:=⟨_,rfl⟩
 rw [hct,hbf,hbt,hnb,hcb,hfb,hRR] at HCQ
 rw [hnb] at HNO
 rw [hRR]
 have HCT:=Ld hct
 have HBF:=Ld hbf
 have HBT:=Ld hbt
 have HNB:=Ld hnb
 have HCB:=Ld (show (wh.all condB && foldsB ⟨tn,cols,keys⟩ ⟨qt,fr,tt,wh,qc,qd,ql,qf,qo,AF,cF,AT,cT,AW,cW,AC,cC⟩) = (cb && fb) by rw [hcb,hfb])
 clear hct hbf hbt hnb hcb hfb hRR
 rcases bf with ⟨bf0,bf1,bfe⟩
 rcases bt with ⟨bt0,bt1,bte⟩
 simp only at HCQ
 obtain ⟨eb,heb⟩ : ∃ b,(qt.toList == tn.toList) = b:=⟨_,rfl⟩
 rw [heb] at HEQ
 have HNM:=Ld (show (eb = true → qt.data.toList = tn.data.toList) ∧ (eb = false → qt.data.toList ≠ tn.data.toList) from ⟨fun h => by have:=HEQ.out;rw [h] at this;exact of_decide_eq_true this.symm,fun h => by have:=HEQ.out;rw [h] at this;exact of_decide_eq_false this.symm⟩)
 have HB0:=Ld (Below.refl (w.heap.size + 3) W0)
 obtain ⟨⟨f0,f1⟩,⟨q0,q1,q2⟩,⟨a0,a1,a2,a3,a4,a5,a6,a7,a8⟩,q3,q4⟩:=HBX.out _ HB0.out
 have HV0:=Ld q4
 clear q4
 by_cases z1 : ct = 0
 ·rw [if_neg (by rw [z1];decide)] at HCQ
  have e1:=zz z1
  clear z1
  cases eb
  ·rw [if_pos (HNM.out.2 rfl)] at HCQ
   go_enter Tryz.func13,Tryz.ntmps13
   go_upto_region 1 with fail
   rw [HW0.out]
   go_wp2_with (first
    | (go_at_call 31;go_must (refine (refCheck25_c pg wd A c ⟨tn,cols,keys⟩ _ (HR.out.below HV0.out)).mono ?_;rintro e w1 ⟨rfl,hb⟩;rw [HCT.out];clear f0 f1 q0 q1 q2 a0 a1 a2 a3 a4 a5 a6 a7 a8;have hz : w.heap.size + 3 ≤ _:=q3;clear q3;have HB1:=Ld (HB0.out.trans (hb.mono hz));clear hb hz;obtain ⟨⟨f0,f1⟩,⟨q0,q1,q2⟩,⟨a0,a1,a2,a3,a4,a5,a6,a7,a8⟩,q3,q4⟩:=HBX.out _ HB1.out;have HV1:=Ld q4;clear q4))
    | (go_at_call 26;refine (refBounds_c pg wd A c ⟨tn,cols,keys⟩ AF cF fr _ (HR.out.below HV1.out) (HQ.out.below HV1.out).fr).mono ?_;rintro e w2 ⟨rfl,hb⟩;rw [HBF.out];clear f0 f1 q0 q1 q2 a0 a1 a2 a3 a4 a5 a6 a7 a8;have hz : w.heap.size + 3 ≤ _:=q3;clear q3;have HB2:=Ld (HB1.out.trans (hb.mono hz));clear hb hz;obtain ⟨⟨f0,f1⟩,⟨q0,q1,q2⟩,⟨a0,a1,a2,a3,a4,a5,a6,a7,a8⟩,q3,q4⟩:=HBX.out _ HB2.out;have HV2:=Ld q4;clear q4))
   go_ret
   exact ⟨ret_eq (by rw [HCQ.out];rfl),HV1.out⟩
  ·rw [if_neg (not_not_intro (HNM.out.1 rfl))] at HCQ
   by_cases z2 : bfe = 0
   ·rw [if_neg (by rw [z2];decide)] at HCQ
    have e2:=zz z2
    clear z2
    by_cases z3 : bte = 0
    ·rw [if_neg (by rw [z3];decide)] at HCQ
     have e3:=zz z3
     clear z3
     cases nb
     ·rw [if_pos rfl] at HCQ
      go_enter Tryz.func13,Tryz.ntmps13
      go_upto_region 1 with fail
      rw [HW0.out]
      go_upto_region 9 with (first
       | (go_at_call 31;go_must (refine (refCheck25_c pg wd A c ⟨tn,cols,keys⟩ _ (HR.out.below HV0.out)).mono ?_;rintro e w1 ⟨rfl,hb⟩;rw [HCT.out];clear f0 f1 q0 q1 q2 a0 a1 a2 a3 a4 a5 a6 a7 a8;have hz : w.heap.size + 3 ≤ _:=q3;clear q3;have HB1:=Ld (HB0.out.trans (hb.mono hz));clear hb hz;obtain ⟨⟨f0,f1⟩,⟨q0,q1,q2⟩,⟨a0,a1,a2,a3,a4,a5,a6,a7,a8⟩,q3,q4⟩:=HBX.out _ HB1.out;have HV1:=Ld q4;clear q4))
       | (go_at_call 26;refine (refBounds_c pg wd A c ⟨tn,cols,keys⟩ AF cF fr _ (HR.out.below HV1.out) (HQ.out.below HV1.out).fr).mono ?_;rintro e w2 ⟨rfl,hb⟩;rw [HBF.out];clear f0 f1 q0 q1 q2 a0 a1 a2 a3 a4 a5 a6 a7 a8;have hz : w.heap.size + 3 ≤ _:=q3;clear q3;have HB2:=Ld (HB1.out.trans (hb.mono hz));clear hb hz;obtain ⟨⟨f0,f1⟩,⟨q0,q1,q2⟩,⟨a0,a1,a2,a3,a4,a5,a6,a7,a8⟩,q3,q4⟩:=HBX.out _ HB2.out;have HV2:=Ld q4;clear q4))
      go_wp2_with (first
       | (go_at_call 26;refine (refBounds_c pg wd A c ⟨tn,cols,keys⟩ AT cT tt _ (HR.out.below HV2.out) (HQ.out.below HV2.out).tt).mono ?_;rintro e w3 ⟨rfl,hb⟩;rw [HBT.out];clear f0 f1 q0 q1 q2 a0 a1 a2 a3 a4 a5 a6 a7 a8;have hz : w.heap.size + 3 ≤ _:=q3;clear q3;have HB3:=Ld (HB2.out.trans (hb.mono hz));clear hb hz;obtain ⟨⟨f0,f1⟩,⟨q0,q1,q2⟩,⟨a0,a1,a2,a3,a4,a5,a6,a7,a8⟩,q3,q4⟩:=HBX.out _ HB3.out;have HV3:=Ld q4;clear q4)
       | (go_at_call 32;go_must (refine (refCols_c A c ⟨tn,cols,keys⟩ ⟨qt,fr,tt,wh,qc,qd,ql,qf,qo,AF,cF,AT,cT,AW,cW,AC,cC⟩ _ (HR.out.below HV3.out) (HQ.out.below HV3.out)).mono ?_;rintro e w4 ⟨rfl,hb⟩;rw [HNB.out];clear f0 f1 q0 q1 q2 a0 a1 a2 a3 a4 a5 a6 a7 a8;have hz : w.heap.size + 3 ≤ _:=q3;clear q3;have HB4:=Ld (HB3.out.trans (hb.mono hz));clear hb hz;obtain ⟨⟨f0,f1⟩,⟨q0,q1,q2⟩,⟨a0,a1,a2,a3,a4,a5,a6,a7,a8⟩,q3,q4⟩:=HBX.out _ HB4.out;have HV4:=Ld q4;clear q4))
       | (go_at_call 33;go_must (refine (refConds_c A c ⟨tn,cols,keys⟩ ⟨qt,fr,tt,wh,qc,qd,ql,qf,qo,AF,cF,AT,cT,AW,cW,AC,cC⟩ _ (HR.out.below HV4.out) (HQ.out.below HV4.out) (HNO.out (by trivial))).mono ?_;rintro e w5 ⟨rfl,hb⟩;rw [HCB.out];clear f0 f1 q0 q1 q2 a0 a1 a2 a3 a4 a5 a6 a7 a8;have hz : w.heap.size + 3 ≤ _:=q3;clear q3;have HB5:=Ld (HB4.out.trans (hb.mono hz));clear hb hz;obtain ⟨⟨f0,f1⟩,⟨q0,q1,q2⟩,⟨a0,a1,a2,a3,a4,a5,a6,a7,a8⟩,q3,q4⟩:=HBX.out _ HB5.out;have HV5:=Ld q4;clear q4)))
      go_ret
      exact ⟨ret_eq (by rw [HCQ.out];rfl),HV4.out⟩
     ·rw [if_neg (by decide)] at HCQ
      by_cases z4 : (cb && fb) = false
      ·have HRV:=Ld (show R = 261 by
         rw [HCQ.out]
         rcases (andB cb fb).1 z4 with h | h
         ·rw [if_pos h]
         ·by_cases h' : cb = false
          ·rw [if_pos h']
          ·rw [if_neg h',if_pos h])
       rw [z4] at HCB
       clear z4
       go_enter Tryz.func13,Tryz.ntmps13
       go_upto_region 1 with fail
       rw [HW0.out]
       go_upto_region 9 with (first
        | (go_at_call 31;go_must (refine (refCheck25_c pg wd A c ⟨tn,cols,keys⟩ _ (HR.out.below HV0.out)).mono ?_;rintro e w1 ⟨rfl,hb⟩;rw [HCT.out];clear f0 f1 q0 q1 q2 a0 a1 a2 a3 a4 a5 a6 a7 a8;have hz : w.heap.size + 3 ≤ _:=q3;clear q3;have HB1:=Ld (HB0.out.trans (hb.mono hz));clear hb hz;obtain ⟨⟨f0,f1⟩,⟨q0,q1,q2⟩,⟨a0,a1,a2,a3,a4,a5,a6,a7,a8⟩,q3,q4⟩:=HBX.out _ HB1.out;have HV1:=Ld q4;clear q4))
        | (go_at_call 26;refine (refBounds_c pg wd A c ⟨tn,cols,keys⟩ AF cF fr _ (HR.out.below HV1.out) (HQ.out.below HV1.out).fr).mono ?_;rintro e w2 ⟨rfl,hb⟩;rw [HBF.out];clear f0 f1 q0 q1 q2 a0 a1 a2 a3 a4 a5 a6 a7 a8;have hz : w.heap.size + 3 ≤ _:=q3;clear q3;have HB2:=Ld (HB1.out.trans (hb.mono hz));clear hb hz;obtain ⟨⟨f0,f1⟩,⟨q0,q1,q2⟩,⟨a0,a1,a2,a3,a4,a5,a6,a7,a8⟩,q3,q4⟩:=HBX.out _ HB2.out;have HV2:=Ld q4;clear q4))
       go_wp2_with (first
        | (go_at_call 26;refine (refBounds_c pg wd A c ⟨tn,cols,keys⟩ AT cT tt _ (HR.out.below HV2.out) (HQ.out.below HV2.out).tt).mono ?_;rintro e w3 ⟨rfl,hb⟩;rw [HBT.out];clear f0 f1 q0 q1 q2 a0 a1 a2 a3 a4 a5 a6 a7 a8;have hz : w.heap.size + 3 ≤ _:=q3;clear q3;have HB3:=Ld (HB2.out.trans (hb.mono hz));clear hb hz;obtain ⟨⟨f0,f1⟩,⟨q0,q1,q2⟩,⟨a0,a1,a2,a3,a4,a5,a6,a7,a8⟩,q3,q4⟩:=HBX.out _ HB3.out;have HV3:=Ld q4;clear q4)
        | (go_at_call 32;go_must (refine (refCols_c A c ⟨tn,cols,keys⟩ ⟨qt,fr,tt,wh,qc,qd,ql,qf,qo,AF,cF,AT,cT,AW,cW,AC,cC⟩ _ (HR.out.below HV3.out) (HQ.out.below HV3.out)).mono ?_;rintro e w4 ⟨rfl,hb⟩;rw [HNB.out];clear f0 f1 q0 q1 q2 a0 a1 a2 a3 a4 a5 a6 a7 a8;have hz : w.heap.size + 3 ≤ _:=q3;clear q3;have HB4:=Ld (HB3.out.trans (hb.mono hz));clear hb hz;obtain ⟨⟨f0,f1⟩,⟨q0,q1,q2⟩,⟨a0,a1,a2,a3,a4,a5,a6,a7,a8⟩,q3,q4⟩:=HBX.out _ HB4.out;have HV4:=Ld q4;clear q4))
        | (go_at_call 33;go_must (refine (refConds_c A c ⟨tn,cols,keys⟩ ⟨qt,fr,tt,wh,qc,qd,ql,qf,qo,AF,cF,AT,cT,AW,cW,AC,cC⟩ _ (HR.out.below HV4.out) (HQ.out.below HV4.out) (HNO.out (by trivial))).mono ?_;rintro e w5 ⟨rfl,hb⟩;rw [HCB.out];clear f0 f1 q0 q1 q2 a0 a1 a2 a3 a4 a5 a6 a7 a8;have hz : w.heap.size + 3 ≤ _:=q3;clear q3;have HB5:=Ld (HB4.out.trans (hb.mono hz));clear hb hz;obtain ⟨⟨f0,f1⟩,⟨q0,q1,q2⟩,⟨a0,a1,a2,a3,a4,a5,a6,a7,a8⟩,q3,q4⟩:=HBX.out _ HB5.out;have HV5:=Ld q4;clear q4)))
       go_ret
       exact ⟨ret_eq (by rw [HRV.out];rfl),HV5.out⟩
      ·have z5 : (cb && fb) = true:=by simpa using z4
       rw [z5] at HCB
       rw [Bool.and_eq_true] at z5
       rw [if_neg (by rw [z5.1];decide),if_neg (by rw [z5.2];decide)] at HCQ
       clear z4 z5
       by_cases z6 : ql < 0
       ·rw [if_pos z6] at HCQ
        go_enter Tryz.func13,Tryz.ntmps13
        go_upto_region 1 with fail
        rw [HW0.out]
        go_upto_region 9 with (first
         | (go_at_call 31;go_must (refine (refCheck25_c pg wd A c ⟨tn,cols,keys⟩ _ (HR.out.below HV0.out)).mono ?_;rintro e w1 ⟨rfl,hb⟩;rw [HCT.out];clear f0 f1 q0 q1 q2 a0 a1 a2 a3 a4 a5 a6 a7 a8;have hz : w.heap.size + 3 ≤ _:=q3;clear q3;have HB1:=Ld (HB0.out.trans (hb.mono hz));clear hb hz;obtain ⟨⟨f0,f1⟩,⟨q0,q1,q2⟩,⟨a0,a1,a2,a3,a4,a5,a6,a7,a8⟩,q3,q4⟩:=HBX.out _ HB1.out;have HV1:=Ld q4;clear q4))
         | (go_at_call 26;refine (refBounds_c pg wd A c ⟨tn,cols,keys⟩ AF cF fr _ (HR.out.below HV1.out) (HQ.out.below HV1.out).fr).mono ?_;rintro e w2 ⟨rfl,hb⟩;rw [HBF.out];clear f0 f1 q0 q1 q2 a0 a1 a2 a3 a4 a5 a6 a7 a8;have hz : w.heap.size + 3 ≤ _:=q3;clear q3;have HB2:=Ld (HB1.out.trans (hb.mono hz));clear hb hz;obtain ⟨⟨f0,f1⟩,⟨q0,q1,q2⟩,⟨a0,a1,a2,a3,a4,a5,a6,a7,a8⟩,q3,q4⟩:=HBX.out _ HB2.out;have HV2:=Ld q4;clear q4))
        go_wp2_with (first
         | (go_at_call 26;refine (refBounds_c pg wd A c ⟨tn,cols,keys⟩ AT cT tt _ (HR.out.below HV2.out) (HQ.out.below HV2.out).tt).mono ?_;rintro e w3 ⟨rfl,hb⟩;rw [HBT.out];clear f0 f1 q0 q1 q2 a0 a1 a2 a3 a4 a5 a6 a7 a8;have hz : w.heap.size + 3 ≤ _:=q3;clear q3;have HB3:=Ld (HB2.out.trans (hb.mono hz));clear hb hz;obtain ⟨⟨f0,f1⟩,⟨q0,q1,q2⟩,⟨a0,a1,a2,a3,a4,a5,a6,a7,a8⟩,q3,q4⟩:=HBX.out _ HB3.out;have HV3:=Ld q4;clear q4)
         | (go_at_call 32;go_must (refine (refCols_c A c ⟨tn,cols,keys⟩ ⟨qt,fr,tt,wh,qc,qd,ql,qf,qo,AF,cF,AT,cT,AW,cW,AC,cC⟩ _ (HR.out.below HV3.out) (HQ.out.below HV3.out)).mono ?_;rintro e w4 ⟨rfl,hb⟩;rw [HNB.out];clear f0 f1 q0 q1 q2 a0 a1 a2 a3 a4 a5 a6 a7 a8;have hz : w.heap.size + 3 ≤ _:=q3;clear q3;have HB4:=Ld (HB3.out.trans (hb.mono hz));clear hb hz;obtain ⟨⟨f0,f1⟩,⟨q0,q1,q2⟩,⟨a0,a1,a2,a3,a4,a5,a6,a7,a8⟩,q3,q4⟩:=HBX.out _ HB4.out;have HV4:=Ld q4;clear q4))
         | (go_at_call 33;go_must (refine (refConds_c A c ⟨tn,cols,keys⟩ ⟨qt,fr,tt,wh,qc,qd,ql,qf,qo,AF,cF,AT,cT,AW,cW,AC,cC⟩ _ (HR.out.below HV4.out) (HQ.out.below HV4.out) (HNO.out (by trivial))).mono ?_;rintro e w5 ⟨rfl,hb⟩;rw [HCB.out];clear f0 f1 q0 q1 q2 a0 a1 a2 a3 a4 a5 a6 a7 a8;have hz : w.heap.size + 3 ≤ _:=q3;clear q3;have HB5:=Ld (HB4.out.trans (hb.mono hz));clear hb hz;obtain ⟨⟨f0,f1⟩,⟨q0,q1,q2⟩,⟨a0,a1,a2,a3,a4,a5,a6,a7,a8⟩,q3,q4⟩:=HBX.out _ HB5.out;have HV5:=Ld q4;clear q4)))
        go_ret
        exact ⟨ret_eq (by rw [HCQ.out];rfl),HV5.out⟩
       ·rw [if_neg z6] at HCQ
        go_enter Tryz.func13,Tryz.ntmps13
        go_upto_region 1 with fail
        rw [HW0.out]
        go_upto_region 9 with (first
         | (go_at_call 31;go_must (refine (refCheck25_c pg wd A c ⟨tn,cols,keys⟩ _ (HR.out.below HV0.out)).mono ?_;rintro e w1 ⟨rfl,hb⟩;rw [HCT.out];clear f0 f1 q0 q1 q2 a0 a1 a2 a3 a4 a5 a6 a7 a8;have hz : w.heap.size + 3 ≤ _:=q3;clear q3;have HB1:=Ld (HB0.out.trans (hb.mono hz));clear hb hz;obtain ⟨⟨f0,f1⟩,⟨q0,q1,q2⟩,⟨a0,a1,a2,a3,a4,a5,a6,a7,a8⟩,q3,q4⟩:=HBX.out _ HB1.out;have HV1:=Ld q4;clear q4))
         | (go_at_call 26;refine (refBounds_c pg wd A c ⟨tn,cols,keys⟩ AF cF fr _ (HR.out.below HV1.out) (HQ.out.below HV1.out).fr).mono ?_;rintro e w2 ⟨rfl,hb⟩;rw [HBF.out];clear f0 f1 q0 q1 q2 a0 a1 a2 a3 a4 a5 a6 a7 a8;have hz : w.heap.size + 3 ≤ _:=q3;clear q3;have HB2:=Ld (HB1.out.trans (hb.mono hz));clear hb hz;obtain ⟨⟨f0,f1⟩,⟨q0,q1,q2⟩,⟨a0,a1,a2,a3,a4,a5,a6,a7,a8⟩,q3,q4⟩:=HBX.out _ HB2.out;have HV2:=Ld q4;clear q4))
        go_wp2_with (first
         | (go_at_call 26;refine (refBounds_c pg wd A c ⟨tn,cols,keys⟩ AT cT tt _ (HR.out.below HV2.out) (HQ.out.below HV2.out).tt).mono ?_;rintro e w3 ⟨rfl,hb⟩;rw [HBT.out];clear f0 f1 q0 q1 q2 a0 a1 a2 a3 a4 a5 a6 a7 a8;have hz : w.heap.size + 3 ≤ _:=q3;clear q3;have HB3:=Ld (HB2.out.trans (hb.mono hz));clear hb hz;obtain ⟨⟨f0,f1⟩,⟨q0,q1,q2⟩,⟨a0,a1,a2,a3,a4,a5,a6,a7,a8⟩,q3,q4⟩:=HBX.out _ HB3.out;have HV3:=Ld q4;clear q4)
         | (go_at_call 32;go_must (refine (refCols_c A c ⟨tn,cols,keys⟩ ⟨qt,fr,tt,wh,qc,qd,ql,qf,qo,AF,cF,AT,cT,AW,cW,AC,cC⟩ _ (HR.out.below HV3.out) (HQ.out.below HV3.out)).mono ?_;rintro e w4 ⟨rfl,hb⟩;rw [HNB.out];clear f0 f1 q0 q1 q2 a0 a1 a2 a3 a4 a5 a6 a7 a8;have hz : w.heap.size + 3 ≤ _:=q3;clear q3;have HB4:=Ld (HB3.out.trans (hb.mono hz));clear hb hz;obtain ⟨⟨f0,f1⟩,⟨q0,q1,q2⟩,⟨a0,a1,a2,a3,a4,a5,a6,a7,a8⟩,q3,q4⟩:=HBX.out _ HB4.out;have HV4:=Ld q4;clear q4))
         | (go_at_call 33;go_must (refine (refConds_c A c ⟨tn,cols,keys⟩ ⟨qt,fr,tt,wh,qc,qd,ql,qf,qo,AF,cF,AT,cT,AW,cW,AC,cC⟩ _ (HR.out.below HV4.out) (HQ.out.below HV4.out) (HNO.out (by trivial))).mono ?_;rintro e w5 ⟨rfl,hb⟩;rw [HCB.out];clear f0 f1 q0 q1 q2 a0 a1 a2 a3 a4 a5 a6 a7 a8;have hz : w.heap.size + 3 ≤ _:=q3;clear q3;have HB5:=Ld (HB4.out.trans (hb.mono hz));clear hb hz;obtain ⟨⟨f0,f1⟩,⟨q0,q1,q2⟩,⟨a0,a1,a2,a3,a4,a5,a6,a7,a8⟩,q3,q4⟩:=HBX.out _ HB5.out;have HV5:=Ld q4;clear q4)))
        go_ret
        exact ⟨ret_eq (by rw [HCQ.out];rfl),HV5.out⟩
    ·rw [if_pos z3] at HCQ
     have e3:=nz z3
     clear z3
     go_enter Tryz.func13,Tryz.ntmps13
     go_upto_region 1 with fail
     rw [HW0.out]
     go_upto_region 9 with (first
      | (go_at_call 31;go_must (refine (refCheck25_c pg wd A c ⟨tn,cols,keys⟩ _ (HR.out.below HV0.out)).mono ?_;rintro e w1 ⟨rfl,hb⟩;rw [HCT.out];clear f0 f1 q0 q1 q2 a0 a1 a2 a3 a4 a5 a6 a7 a8;have hz : w.heap.size + 3 ≤ _:=q3;clear q3;have HB1:=Ld (HB0.out.trans (hb.mono hz));clear hb hz;obtain ⟨⟨f0,f1⟩,⟨q0,q1,q2⟩,⟨a0,a1,a2,a3,a4,a5,a6,a7,a8⟩,q3,q4⟩:=HBX.out _ HB1.out;have HV1:=Ld q4;clear q4))
      | (go_at_call 26;refine (refBounds_c pg wd A c ⟨tn,cols,keys⟩ AF cF fr _ (HR.out.below HV1.out) (HQ.out.below HV1.out).fr).mono ?_;rintro e w2 ⟨rfl,hb⟩;rw [HBF.out];clear f0 f1 q0 q1 q2 a0 a1 a2 a3 a4 a5 a6 a7 a8;have hz : w.heap.size + 3 ≤ _:=q3;clear q3;have HB2:=Ld (HB1.out.trans (hb.mono hz));clear hb hz;obtain ⟨⟨f0,f1⟩,⟨q0,q1,q2⟩,⟨a0,a1,a2,a3,a4,a5,a6,a7,a8⟩,q3,q4⟩:=HBX.out _ HB2.out;have HV2:=Ld q4;clear q4))
     go_wp2_with (first
      | (go_at_call 26;refine (refBounds_c pg wd A c ⟨tn,cols,keys⟩ AT cT tt _ (HR.out.below HV2.out) (HQ.out.below HV2.out).tt).mono ?_;rintro e w3 ⟨rfl,hb⟩;rw [HBT.out];clear f0 f1 q0 q1 q2 a0 a1 a2 a3 a4 a5 a6 a7 a8;have hz : w.heap.size + 3 ≤ _:=q3;clear q3;have HB3:=Ld (HB2.out.trans (hb.mono hz));clear hb hz;obtain ⟨⟨f0,f1⟩,⟨q0,q1,q2⟩,⟨a0,a1,a2,a3,a4,a5,a6,a7,a8⟩,q3,q4⟩:=HBX.out _ HB3.out;have HV3:=Ld q4;clear q4)
      | (go_at_call 32;go_must (refine (refCols_c A c ⟨tn,cols,keys⟩ ⟨qt,fr,tt,wh,qc,qd,ql,qf,qo,AF,cF,AT,cT,AW,cW,AC,cC⟩ _ (HR.out.below HV3.out) (HQ.out.below HV3.out)).mono ?_;rintro e w4 ⟨rfl,hb⟩;rw [HNB.out];clear f0 f1 q0 q1 q2 a0 a1 a2 a3 a4 a5 a6 a7 a8;have hz : w.heap.size + 3 ≤ _:=q3;clear q3;have HB4:=Ld (HB3.out.trans (hb.mono hz));clear hb hz;obtain ⟨⟨f0,f1⟩,⟨q0,q1,q2⟩,⟨a0,a1,a2,a3,a4,a5,a6,a7,a8⟩,q3,q4⟩:=HBX.out _ HB4.out;have HV4:=Ld q4;clear q4))
      | (go_at_call 33;go_must (refine (refConds_c A c ⟨tn,cols,keys⟩ ⟨qt,fr,tt,wh,qc,qd,ql,qf,qo,AF,cF,AT,cT,AW,cW,AC,cC⟩ _ (HR.out.below HV4.out) (HQ.out.below HV4.out) (HNO.out (by trivial))).mono ?_;rintro e w5 ⟨rfl,hb⟩;rw [HCB.out];clear f0 f1 q0 q1 q2 a0 a1 a2 a3 a4 a5 a6 a7 a8;have hz : w.heap.size + 3 ≤ _:=q3;clear q3;have HB5:=Ld (HB4.out.trans (hb.mono hz));clear hb hz;obtain ⟨⟨f0,f1⟩,⟨q0,q1,q2⟩,⟨a0,a1,a2,a3,a4,a5,a6,a7,a8⟩,q3,q4⟩:=HBX.out _ HB5.out;have HV5:=Ld q4;clear q4)))
     go_ret
     exact ⟨ret_eq (by rw [HCQ.out];rfl),HV3.out⟩
   ·rw [if_pos z2] at HCQ
    have e2:=nz z2
    clear z2
    go_enter Tryz.func13,Tryz.ntmps13
    go_upto_region 1 with fail
    rw [HW0.out]
    go_wp2_with (first
     | (go_at_call 31;go_must (refine (refCheck25_c pg wd A c ⟨tn,cols,keys⟩ _ (HR.out.below HV0.out)).mono ?_;rintro e w1 ⟨rfl,hb⟩;rw [HCT.out];clear f0 f1 q0 q1 q2 a0 a1 a2 a3 a4 a5 a6 a7 a8;have hz : w.heap.size + 3 ≤ _:=q3;clear q3;have HB1:=Ld (HB0.out.trans (hb.mono hz));clear hb hz;obtain ⟨⟨f0,f1⟩,⟨q0,q1,q2⟩,⟨a0,a1,a2,a3,a4,a5,a6,a7,a8⟩,q3,q4⟩:=HBX.out _ HB1.out;have HV1:=Ld q4;clear q4))
     | (go_at_call 26;refine (refBounds_c pg wd A c ⟨tn,cols,keys⟩ AF cF fr _ (HR.out.below HV1.out) (HQ.out.below HV1.out).fr).mono ?_;rintro e w2 ⟨rfl,hb⟩;rw [HBF.out];clear f0 f1 q0 q1 q2 a0 a1 a2 a3 a4 a5 a6 a7 a8;have hz : w.heap.size + 3 ≤ _:=q3;clear q3;have HB2:=Ld (HB1.out.trans (hb.mono hz));clear hb hz;obtain ⟨⟨f0,f1⟩,⟨q0,q1,q2⟩,⟨a0,a1,a2,a3,a4,a5,a6,a7,a8⟩,q3,q4⟩:=HBX.out _ HB2.out;have HV2:=Ld q4;clear q4))
    go_ret
    exact ⟨ret_eq (by rw [HCQ.out];rfl),HV2.out⟩
 ·rw [if_pos z1] at HCQ
  have e1:=nz z1
  clear z1
  go_enter Tryz.func13,Tryz.ntmps13
  go_upto_region 1 with fail
  rw [HW0.out]
  go_wp2_with (first
   | (go_at_call 31;go_must (refine (refCheck25_c pg wd A c ⟨tn,cols,keys⟩ _ (HR.out.below HV0.out)).mono ?_;rintro e w1 ⟨rfl,hb⟩;rw [HCT.out];clear f0 f1 q0 q1 q2 a0 a1 a2 a3 a4 a5 a6 a7 a8;have hz : w.heap.size + 3 ≤ _:=q3;clear q3;have HB1:=Ld (HB0.out.trans (hb.mono hz));clear hb hz;obtain ⟨⟨f0,f1⟩,⟨q0,q1,q2⟩,⟨a0,a1,a2,a3,a4,a5,a6,a7,a8⟩,q3,q4⟩:=HBX.out _ HB1.out;have HV1:=Ld q4;clear q4))
   | (go_at_call 26;refine (refBounds_c pg wd A c ⟨tn,cols,keys⟩ AF cF fr _ (HR.out.below HV1.out) (HQ.out.below HV1.out).fr).mono ?_;rintro e w2 ⟨rfl,hb⟩;rw [HBF.out];clear f0 f1 q0 q1 q2 a0 a1 a2 a3 a4 a5 a6 a7 a8;have hz : w.heap.size + 3 ≤ _:=q3;clear q3;have HB2:=Ld (HB1.out.trans (hb.mono hz));clear hb hz;obtain ⟨⟨f0,f1⟩,⟨q0,q1,q2⟩,⟨a0,a1,a2,a3,a4,a5,a6,a7,a8⟩,q3,q4⟩:=HBX.out _ HB2.out;have HV2:=Ld q4;clear q4))
  go_ret
  exact ⟨ret_eq (by rw [HCQ.out];rfl),HV1.out⟩
theorem refSpan_c [Inhabited Thr] (pg wd : Int) (A : Option Addr) (c : Nat) (t : TabD) (q : QryV) (w : World) (hR : RdT w A c t) (hQ : RdQ w q) :
 Calls Tryz.prog 11 #[vF pg wd,vT t A c,q.val] w fun e w' => e = .returned (.tuple #[.string ⟨(spanR pg wd t q).1.toArray⟩,.string ⟨(spanR pg wd t q).2.1.toArray⟩,.int .i64 (spanR pg wd t q).2.2]) ∧ Below w.heap.size w w':=by
 have HR:=Ld hR
 have HQ:=Ld hQ
 have htb:=hQ.tt.hb
 rcases t with ⟨tn,cols,keys⟩
 rcases q with ⟨qt,fr,tt,wh,qc,qd,ql,qf,qo,AF,cF,AT,cT,AW,cW,AC,cC⟩
 simp only [QryV.val,QryV.cells] at htb ⊢
 obtain ⟨W0,hW0⟩ : ∃ W0,((w.alloc (.cells #[.int .i64 pg,.int .i64 wd] 24)).alloc (.cells #[.string tn,.slice A cols.length c,.int .i64 keys] 27)).alloc (.cells #[.string qt,.slice AF fr.length cF,.slice AT tt.length cT,.slice AW wh.length cW,.slice AC qc.length cC,.bool qd,.int .i64 ql,.int .u8 qf,.string qo] 33) = W0:=⟨_,rfl⟩
 have HW0:=Ld hW0
 have HBX:=Ld (fun W (h : Below (w.heap.size + 3) W0 W) => boxes_fq (hW0 ▸ h))
 have HSP:=Ld (show spanR pg wd ⟨tn,cols,keys⟩ ⟨qt,fr,tt,wh,qc,qd,ql,qf,qo,AF,cF,AT,cT,AW,cW,AC,cC⟩ = if chkQ pg wd ⟨tn,cols,keys⟩ ⟨qt,fr,tt,wh,qc,qd,ql,qf,qo,AF,cF,AT,cT,AW,cW,AC,cC⟩ ≠ 0 then ([],[],chkQ pg wd ⟨tn,cols,keys⟩ ⟨qt,fr,tt,wh,qc,qd,ql,qf,qo,AF,cF,AT,cT,AW,cW,AC,cC⟩) else ((bndR pg wd ⟨tn,cols,keys⟩ (VI.dataL fr)).1,if 0 < tt.length then (bndR pg wd ⟨tn,cols,keys⟩ (VI.dataL tt)).1 else (bndR pg wd ⟨tn,cols,keys⟩ []).2.1,0) from rfl)
 clear hR hQ hW0
 obtain ⟨cq,hcq⟩ : ∃ n,chkQ pg wd ⟨tn,cols,keys⟩ ⟨qt,fr,tt,wh,qc,qd,ql,qf,qo,AF,cF,AT,cT,AW,cW,AC,cC⟩ = n:=⟨_,rfl⟩
 obtain ⟨bf,hbf⟩ : ∃ n,bndR pg wd ⟨tn,cols,keys⟩ (VI.dataL fr) = n:=⟨_,rfl⟩
 obtain ⟨bt,hbt⟩ : ∃ n,bndR pg wd ⟨tn,cols,keys⟩ (VI.dataL tt) = n:=⟨_,rfl⟩
 obtain ⟨bn,hbn⟩ : ∃ n,bndR pg wd ⟨tn,cols,keys⟩ [] = n:=⟨_,rfl⟩
 rw [hcq,hbf,hbt,hbn] at HSP
 have HCQ:=Ld hcq
 have HBF:=Ld hbf
 have HBT:=Ld hbt
 have HBN:=Ld (show bndR pg wd ⟨tn,cols,keys⟩ (VI.dataL []) = bn by rw [← hbn,VI.dataL])
 clear hcq hbf hbt hbn
 rcases bf with ⟨bf0,bf1,bfe⟩
 rcases bt with ⟨bt0,bt1,bte⟩
 rcases bn with ⟨bn0,bn1,bne⟩
 simp only at HSP
 obtain ⟨R,hRR⟩ : ∃ n,spanR pg wd ⟨tn,cols,keys⟩ ⟨qt,fr,tt,wh,qc,qd,ql,qf,qo,AF,cF,AT,cT,AW,cW,AC,cC⟩ = n:=⟨_,rfl⟩
 rw [hRR] at HSP ⊢
 clear hRR
 have HB0:=Ld (Below.refl (w.heap.size + 3) W0)
 obtain ⟨⟨f0,f1⟩,⟨q0,q1,q2⟩,⟨a0,a1,a2,a3,a4,a5,a6,a7,a8⟩,q3,q4⟩:=HBX.out _ HB0.out
 have HV0:=Ld q4
 clear q4
 by_cases z1 : cq = 0
 ·rw [if_neg (by rw [z1];decide)] at HSP
  have e1:=zz z1
  clear z1
  by_cases hlt : 0 < tt.length
  ·have e2 : ((tt.length : Int) == 0) = false:=by rw [beq_eq_false_iff_ne];omega
   rw [if_pos hlt] at HSP
   go_enter Tryz.func11,Tryz.ntmps11
   go_upto_region 1 with fail
   rw [HW0.out]
   go_upto_region 5 with (first
    | (go_at_call 13;go_must (refine (refCheck26_c pg wd A c ⟨tn,cols,keys⟩ ⟨qt,fr,tt,wh,qc,qd,ql,qf,qo,AF,cF,AT,cT,AW,cW,AC,cC⟩ _ (HR.out.below HV0.out) (HQ.out.below HV0.out)).mono ?_;rintro e w1 ⟨rfl,hb⟩;rw [HCQ.out];clear f0 f1 q0 q1 q2 a0 a1 a2 a3 a4 a5 a6 a7 a8;have hz : w.heap.size + 3 ≤ _:=q3;clear q3;have HB1:=Ld (HB0.out.trans (hb.mono hz));clear hb hz;obtain ⟨⟨f0,f1⟩,⟨q0,q1,q2⟩,⟨a0,a1,a2,a3,a4,a5,a6,a7,a8⟩,q3,q4⟩:=HBX.out _ HB1.out;have HV1:=Ld q4;clear q4))
    | (go_at_call 26;refine (refBounds_c pg wd A c ⟨tn,cols,keys⟩ AF cF fr _ (HR.out.below HV1.out) (HQ.out.below HV1.out).fr).mono ?_;rintro e w2 ⟨rfl,hb⟩;rw [HBF.out];clear f0 f1 q0 q1 q2 a0 a1 a2 a3 a4 a5 a6 a7 a8;have hz : w.heap.size + 3 ≤ _:=q3;clear q3;have HB2:=Ld (HB1.out.trans (hb.mono hz));clear hb hz;obtain ⟨⟨f0,f1⟩,⟨q0,q1,q2⟩,⟨a0,a1,a2,a3,a4,a5,a6,a7,a8⟩,q3,q4⟩:=HBX.out _ HB2.out;have HV2:=Ld q4;clear q4))
   go_wp2_with (first
    | (go_at_call 26;refine (refBounds_c pg wd A c ⟨tn,cols,keys⟩ AT cT tt _ (HR.out.below HV2.out) (HQ.out.below HV2.out).tt).mono ?_;rintro e w3 ⟨rfl,hb⟩;rw [HBT.out];clear f0 f1 q0 q1 q2 a0 a1 a2 a3 a4 a5 a6 a7 a8;have hz : w.heap.size + 3 ≤ _:=q3;clear q3;have HB3:=Ld (HB2.out.trans (hb.mono hz));clear hb hz;obtain ⟨⟨f0,f1⟩,⟨q0,q1,q2⟩,⟨a0,a1,a2,a3,a4,a5,a6,a7,a8⟩,q3,q4⟩:=HBX.out _ HB3.out;have HV3:=Ld q4;clear q4))
   go_ret3
   exact ⟨ret_eq (by rw [HSP.out];rfl),HV3.out⟩
  ·have e2 : ((tt.length : Int) == 0) = true:=by rw [beq_iff_eq];omega
   rw [if_neg hlt] at HSP
   go_enter Tryz.func11,Tryz.ntmps11
   go_upto_region 1 with fail
   rw [HW0.out]
   go_upto_region 5 with (first
    | (go_at_call 13;go_must (refine (refCheck26_c pg wd A c ⟨tn,cols,keys⟩ ⟨qt,fr,tt,wh,qc,qd,ql,qf,qo,AF,cF,AT,cT,AW,cW,AC,cC⟩ _ (HR.out.below HV0.out) (HQ.out.below HV0.out)).mono ?_;rintro e w1 ⟨rfl,hb⟩;rw [HCQ.out];clear f0 f1 q0 q1 q2 a0 a1 a2 a3 a4 a5 a6 a7 a8;have hz : w.heap.size + 3 ≤ _:=q3;clear q3;have HB1:=Ld (HB0.out.trans (hb.mono hz));clear hb hz;obtain ⟨⟨f0,f1⟩,⟨q0,q1,q2⟩,⟨a0,a1,a2,a3,a4,a5,a6,a7,a8⟩,q3,q4⟩:=HBX.out _ HB1.out;have HV1:=Ld q4;clear q4))
    | (go_at_call 26;refine (refBounds_c pg wd A c ⟨tn,cols,keys⟩ AF cF fr _ (HR.out.below HV1.out) (HQ.out.below HV1.out).fr).mono ?_;rintro e w2 ⟨rfl,hb⟩;rw [HBF.out];clear f0 f1 q0 q1 q2 a0 a1 a2 a3 a4 a5 a6 a7 a8;have hz : w.heap.size + 3 ≤ _:=q3;clear q3;have HB2:=Ld (HB1.out.trans (hb.mono hz));clear hb hz;obtain ⟨⟨f0,f1⟩,⟨q0,q1,q2⟩,⟨a0,a1,a2,a3,a4,a5,a6,a7,a8⟩,q3,q4⟩:=HBX.out _ HB2.out;have HV2:=Ld q4;clear q4))
   go_upto_region 7 with (first
    | (go_at_call 26;refine (refBounds_c pg wd A c ⟨tn,cols,keys⟩ AT cT tt _ (HR.out.below HV2.out) (HQ.out.below HV2.out).tt).mono ?_;rintro e w3 ⟨rfl,hb⟩;rw [HBT.out];clear f0 f1 q0 q1 q2 a0 a1 a2 a3 a4 a5 a6 a7 a8;have hz : w.heap.size + 3 ≤ _:=q3;clear q3;have HB3:=Ld (HB2.out.trans (hb.mono hz));clear hb hz;obtain ⟨⟨f0,f1⟩,⟨q0,q1,q2⟩,⟨a0,a1,a2,a3,a4,a5,a6,a7,a8⟩,q3,q4⟩:=HBX.out _ HB3.out;have HV3:=Ld q4;clear q4))
   go_wp2_with (first
    | (go_at_call 26;refine (refBounds_c pg wd A c ⟨tn,cols,keys⟩ none 0 [] _ (HR.out.below HV3.out) (RdI.nil _ _)).mono ?_;rintro e w4 ⟨rfl,hb⟩;rw [HBN.out];clear f0 f1 q0 q1 q2 a0 a1 a2 a3 a4 a5 a6 a7 a8;have hz : w.heap.size + 3 ≤ _:=q3;clear q3;have HB4:=Ld (HB3.out.trans (hb.mono hz));clear hb hz;obtain ⟨⟨f0,f1⟩,⟨q0,q1,q2⟩,⟨a0,a1,a2,a3,a4,a5,a6,a7,a8⟩,q3,q4⟩:=HBX.out _ HB4.out;have HV4:=Ld q4;clear q4))
   go_ret3
   exact ⟨ret_eq (by rw [HSP.out];rfl),HV4.out⟩
 ·rw [if_pos z1] at HSP
  have e1:=nz z1
  clear z1
  go_enter Tryz.func11,Tryz.ntmps11
  go_upto_region 1 with fail
  rw [HW0.out]
  go_wp2_with (first
   | (go_at_call 13;go_must (refine (refCheck26_c pg wd A c ⟨tn,cols,keys⟩ ⟨qt,fr,tt,wh,qc,qd,ql,qf,qo,AF,cF,AT,cT,AW,cW,AC,cC⟩ _ (HR.out.below HV0.out) (HQ.out.below HV0.out)).mono ?_;rintro e w1 ⟨rfl,hb⟩;rw [HCQ.out];clear f0 f1 q0 q1 q2 a0 a1 a2 a3 a4 a5 a6 a7 a8;have hz : w.heap.size + 3 ≤ _:=q3;clear q3;have HB1:=Ld (HB0.out.trans (hb.mono hz));clear hb hz;obtain ⟨⟨f0,f1⟩,⟨q0,q1,q2⟩,⟨a0,a1,a2,a3,a4,a5,a6,a7,a8⟩,q3,q4⟩:=HBX.out _ HB1.out;have HV1:=Ld q4;clear q4)))
  go_ret3
  exact ⟨ret_eq (by rw [HSP.out];rfl),HV1.out⟩
end
end Go.Proofs.YtonjgedhmmnolaaGreatDoor
