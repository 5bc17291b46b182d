import Derived.Test.YtonjgedhmmnolaaGreatDoorZZ6
import Derived.Test.YtonjgedhmmnolaaGreatDoorZ9
import Derived.Test.YtonjgedhmmnolaaGreatDoorZY10
namespace Go.Proofs.YtonjgedhmmnolaaGreatDoor
section
open Go.RowKit
set_option maxHeartbeats 2000000
set_option maxRecDepth 100000
theorem refRowOf_c [Inhabited Thr] (pg wd : Int) (A : Option Addr) (c : Nat) (t : TabD) (kb vb : ByteArray) (w : World) (hR : RdT w A c t) :
 Calls Tryz.prog 80 #[vF pg wd,vT t A c,.agg #[.string kb,.string vb]] w (RowEnd (rowR pg wd t kb.data.toList vb.data.toList) w):=by
 have HR:=Ld hR
 have hkk:=hR.hk
 have hlen:=hR.hb
 rcases t with ⟨tn,cols,keys⟩
 simp only at hlen hkk
 have HBX:=Ld (fun W (h : Below (w.heap.size + 3) (((w.alloc (.cells #[.int .i64 pg,.int .i64 wd] 24)).alloc (.cells #[.string tn,.slice A cols.length c,.int .i64 keys] 27)).alloc (.cells #[.string kb,.string vb] 56)) W) => boxes_ftp h)
 have HW0:=Ld (show Below w.heap.size w (((w.alloc (.cells #[.int .i64 pg,.int .i64 wd] 24)).alloc (.cells #[.string tn,.slice A cols.length c,.int .i64 keys] 27)).alloc (.cells #[.string kb,.string vb] 56)) from (two_below w _ _).alloc (by simp;omega) _)
 clear hR
 by_cases h0 : chkT pg wd ⟨tn,cols,keys⟩ = 0
 ·have HOK:=Ld (chkT_ok h0)
  have HSL:=Ld (show 1 ≤ cols.length ∧ cols.length ≤ 16 ∧ 1 ≤ keys ∧ keys ≤ cols.length from shaped_len HOK.out.2)
  have hz0 : ((chkT pg wd ⟨tn,cols,keys⟩ : Int) != 0) = false:=zz h0
  have H0:=Ld h0
  clear h0
  cases huk : unpB kb.data.toList with
  | none =>
    have HUK:=Ld huk
    have hze:=nz (unpErr_ne huk)
    have HRES:=Ld (rowR_nk (vb:=vb.data.toList) H0.out huk)
    clear huk
    cases huv : unpB vb.data.toList with
    | none =>
      have HUV:=Ld huv
      clear huv
      go_enter Tryz.func80,Tryz.ntmps80
      go_wp2_with (first
       | (go_at_call 31;go_must (refine (refCheck25_c pg wd A c ⟨tn,cols,keys⟩ _ (HR.out.below HW0.out)).mono ?_;rintro e w1 ⟨rfl,hb1⟩;have HB1:=Ld (hb1.mono (show w.heap.size + 3 ≤ _ by simp));obtain ⟨⟨q0,q1⟩,⟨q2,q3,q4⟩,⟨q5,q6⟩,q7,q8⟩:=HBX.out _ HB1.out;have HW1:=Ld q8;clear hb1 q8))
       | (go_at_call 111;have h2x:=HB2.out;clear h2x;go_must (refine (refUnpack_c vb w2).mono ?_;rintro e w3 ⟨hb,hm⟩;rw [HUV.out] at hm;have hm:=hm;subst hm;have HB3:=Ld (HB2.out.trans (hb.mono (show w.heap.size + 3 ≤ _ by omega)));have HG3:=Ld hb;clear q0 q1 q2 q3 q4 q5 q6 q7;obtain ⟨⟨q0,q1⟩,⟨q2,q3,q4⟩,⟨q5,q6⟩,q7,q8⟩:=HBX.out _ HB3.out;have HW3:=Ld q8;clear hb q8))
       | (go_at_call 111;go_must (refine (refUnpack_c kb w1).mono ?_;rintro e w2 ⟨hb,hm⟩;rw [HUK.out] at hm;have hm:=hm;subst hm;have HB2:=Ld (HB1.out.trans (hb.mono (show w.heap.size + 3 ≤ _ by omega)));have HG2:=Ld hb;clear q0 q1 q2 q3 q4 q5 q6 q7;obtain ⟨⟨q0,q1⟩,⟨q2,q3,q4⟩,⟨q5,q6⟩,q7,q8⟩:=HBX.out _ HB2.out;have HW2:=Ld q8;clear hb q8)))
      have HQ:=Ld (fun W (h : Below w3.heap.size w3 W) => HBX.out W (HB3.out.trans (h.mono q7)))
      clear q0 q1 q2 q3 q4 q5 q6 q7
      refine wp_region_sched (S:=fun W => Below w3.heap.size w3 W) [(0,true),(1,true),(2,true),(3,true),(4,true),(5,true),(6,true),(7,true),(8,true),(9,true),(10,true),(11,true),(12,true),(13,true),(14,true),(15,true),(16,true),(17,true),(18,true),(19,true),(20,true),(21,true),(22,true),(23,true),(24,true),(25,true),(26,true)] (by kernel_rfl) (by kernel_rfl) (by kernel_rfl) (fun _ _ d _ _ h => by cases d <;> exact h) (Below.refl _ _).drew ?_
      repeat (first
       | (apply sched_take;(exact rfl);rfl;(intro W hW;obtain ⟨⟨q0,q1⟩,⟨q2,q3,q4⟩,⟨q5,q6⟩,q7,q8⟩:=HQ.out W hW;clear q8;go_simp;(try with_reducible rfl));simp only [Act.put,List.setIfInBounds_toArray,List.set_cons_zero,List.set_cons_succ])
       | (apply sched_pass;(exact rfl);rfl;simp only [Act.put,List.setIfInBounds_toArray,List.set_cons_zero,List.set_cons_succ]))
      refine sched_done ?_
      go_wp2
      obtain ⟨_,_,_,_,q8⟩:=HQ.out _ (Below.refl _ _)
      go_ret2
      exact ⟨q8.drew,by rw [HRES.out];rfl⟩
    | some lv =>
      have HUV:=Ld huv
      clear huv
      go_enter Tryz.func80,Tryz.ntmps80
      go_wp2_with (first
       | (go_at_call 31;go_must (refine (refCheck25_c pg wd A c ⟨tn,cols,keys⟩ _ (HR.out.below HW0.out)).mono ?_;rintro e w1 ⟨rfl,hb1⟩;have HB1:=Ld (hb1.mono (show w.heap.size + 3 ≤ _ by simp));obtain ⟨⟨q0,q1⟩,⟨q2,q3,q4⟩,⟨q5,q6⟩,q7,q8⟩:=HBX.out _ HB1.out;have HW1:=Ld q8;clear hb1 q8))
       | (go_at_call 111;have h2x:=HB2.out;clear h2x;go_must (refine (refUnpack_c vb w2).mono ?_;rintro e w3 ⟨hb,hm⟩;rw [HUV.out] at hm;obtain ⟨L2,A2,c2,rfl,hd,hn,hO,hR,hK⟩:=hm;have HD2:=Ld hd;have HN2:=Ld hn;have HO2:=Ld hO;have HR2:=Ld hR;have HK2:=Ld hK;have HB3:=Ld (HB2.out.trans (hb.mono (show w.heap.size + 3 ≤ _ by omega)));have HG3:=Ld hb;clear q0 q1 q2 q3 q4 q5 q6 q7;obtain ⟨⟨q0,q1⟩,⟨q2,q3,q4⟩,⟨q5,q6⟩,q7,q8⟩:=HBX.out _ HB3.out;have HW3:=Ld q8;clear hb hd hn hO hR hK q8))
       | (go_at_call 111;go_must (refine (refUnpack_c kb w1).mono ?_;rintro e w2 ⟨hb,hm⟩;rw [HUK.out] at hm;have hm:=hm;subst hm;have HB2:=Ld (HB1.out.trans (hb.mono (show w.heap.size + 3 ≤ _ by omega)));have HG2:=Ld hb;clear q0 q1 q2 q3 q4 q5 q6 q7;obtain ⟨⟨q0,q1⟩,⟨q2,q3,q4⟩,⟨q5,q6⟩,q7,q8⟩:=HBX.out _ HB2.out;have HW2:=Ld q8;clear hb q8)))
      have HQ:=Ld (fun W (h : Below w3.heap.size w3 W) => HBX.out W (HB3.out.trans (h.mono q7)))
      clear q0 q1 q2 q3 q4 q5 q6 q7
      refine wp_region_sched (S:=fun W => Below w3.heap.size w3 W) [(0,true),(1,true),(2,true),(3,true),(4,true),(5,true),(6,true),(7,true),(8,true),(9,true),(10,true),(11,true),(12,true),(13,true),(14,true),(15,true),(16,true),(17,true),(18,true),(19,true),(20,true),(21,true),(22,true),(23,true),(24,true),(25,true),(26,true)] (by kernel_rfl) (by kernel_rfl) (by kernel_rfl) (fun _ _ d _ _ h => by cases d <;> exact h) (Below.refl _ _).drew ?_
      repeat (first
       | (apply sched_take;(exact rfl);rfl;(intro W hW;obtain ⟨⟨q0,q1⟩,⟨q2,q3,q4⟩,⟨q5,q6⟩,q7,q8⟩:=HQ.out W hW;clear q8;go_simp;(try with_reducible rfl));simp only [Act.put,List.setIfInBounds_toArray,List.set_cons_zero,List.set_cons_succ])
       | (apply sched_pass;(exact rfl);rfl;simp only [Act.put,List.setIfInBounds_toArray,List.set_cons_zero,List.set_cons_succ]))
      refine sched_done ?_
      go_wp2
      obtain ⟨_,_,_,_,q8⟩:=HQ.out _ (Below.refl _ _)
      go_ret2
      exact ⟨q8.drew,by rw [HRES.out];rfl⟩
  | some lk =>
    cases huv : unpB vb.data.toList with
    | none =>
      have HUK:=Ld huk
      have HUV:=Ld huv
      have hze:=nz (unpErr_ne huv)
      have HRES:=Ld (rowR_nv (kb:=kb.data.toList) H0.out huv)
      clear huk huv
      go_enter Tryz.func80,Tryz.ntmps80
      go_wp2_with (first
       | (go_at_call 31;go_must (refine (refCheck25_c pg wd A c ⟨tn,cols,keys⟩ _ (HR.out.below HW0.out)).mono ?_;rintro e w1 ⟨rfl,hb1⟩;have HB1:=Ld (hb1.mono (show w.heap.size + 3 ≤ _ by simp));obtain ⟨⟨q0,q1⟩,⟨q2,q3,q4⟩,⟨q5,q6⟩,q7,q8⟩:=HBX.out _ HB1.out;have HW1:=Ld q8;clear hb1 q8))
       | (go_at_call 111;have h2x:=HB2.out;clear h2x;go_must (refine (refUnpack_c vb w2).mono ?_;rintro e w3 ⟨hb,hm⟩;rw [HUV.out] at hm;have hm:=hm;subst hm;have HB3:=Ld (HB2.out.trans (hb.mono (show w.heap.size + 3 ≤ _ by omega)));have HG3:=Ld hb;clear q0 q1 q2 q3 q4 q5 q6 q7;obtain ⟨⟨q0,q1⟩,⟨q2,q3,q4⟩,⟨q5,q6⟩,q7,q8⟩:=HBX.out _ HB3.out;have HW3:=Ld q8;clear hb q8))
       | (go_at_call 111;go_must (refine (refUnpack_c kb w1).mono ?_;rintro e w2 ⟨hb,hm⟩;rw [HUK.out] at hm;obtain ⟨L1,A1,c1,rfl,hd,hn,hO,hR,hK⟩:=hm;have HD1:=Ld hd;have HN1:=Ld hn;have HO1:=Ld hO;have HR1:=Ld hR;have HK1:=Ld hK;have HB2:=Ld (HB1.out.trans (hb.mono (show w.heap.size + 3 ≤ _ by omega)));have HG2:=Ld hb;clear q0 q1 q2 q3 q4 q5 q6 q7;obtain ⟨⟨q0,q1⟩,⟨q2,q3,q4⟩,⟨q5,q6⟩,q7,q8⟩:=HBX.out _ HB2.out;have HW2:=Ld q8;clear hb hd hn hO hR hK q8)))
      have HQ:=Ld (fun W (h : Below w3.heap.size w3 W) => HBX.out W (HB3.out.trans (h.mono q7)))
      clear q0 q1 q2 q3 q4 q5 q6 q7
      refine wp_region_sched (S:=fun W => Below w3.heap.size w3 W) [(0,true),(1,true),(2,true),(3,true),(4,true),(5,true),(6,true),(7,true),(8,true),(9,true),(10,true),(11,true),(12,true),(13,true),(14,true),(15,true),(16,true),(17,true),(18,true),(19,true),(20,true),(21,true),(22,true),(23,true),(24,true),(25,true),(26,true)] (by kernel_rfl) (by kernel_rfl) (by kernel_rfl) (fun _ _ d _ _ h => by cases d <;> exact h) (Below.refl _ _).drew ?_
      repeat (first
       | (apply sched_take;(exact rfl);rfl;(intro W hW;obtain ⟨⟨q0,q1⟩,⟨q2,q3,q4⟩,⟨q5,q6⟩,q7,q8⟩:=HQ.out W hW;clear q8;go_simp;(try with_reducible rfl));simp only [Act.put,List.setIfInBounds_toArray,List.set_cons_zero,List.set_cons_succ])
       | (apply sched_pass;(exact rfl);rfl;simp only [Act.put,List.setIfInBounds_toArray,List.set_cons_zero,List.set_cons_succ]))
      refine sched_done ?_
      go_wp2
      obtain ⟨_,_,_,_,q8⟩:=HQ.out _ (Below.refl _ _)
      go_ret2
      exact ⟨q8.drew,by rw [HRES.out];rfl⟩
    | some lv =>
      have HUK:=Ld huk
      have HUV:=Ld huv
      clear huk huv
      go_enter Tryz.func80,Tryz.ntmps80
      go_wp2_with (first
       | (go_at_call 31;go_must (refine (refCheck25_c pg wd A c ⟨tn,cols,keys⟩ _ (HR.out.below HW0.out)).mono ?_;rintro e w1 ⟨rfl,hb1⟩;have HB1:=Ld (hb1.mono (show w.heap.size + 3 ≤ _ by simp));obtain ⟨⟨q0,q1⟩,⟨q2,q3,q4⟩,⟨q5,q6⟩,q7,q8⟩:=HBX.out _ HB1.out;have HW1:=Ld q8;clear hb1 q8))
       | (go_at_call 111;have h2x:=HB2.out;clear h2x;go_must (refine (refUnpack_c vb w2).mono ?_;rintro e w3 ⟨hb,hm⟩;rw [HUV.out] at hm;obtain ⟨L2,A2,c2,rfl,hd,hn,hO,hR,hK⟩:=hm;have HD2:=Ld hd;have HN2:=Ld hn;have HO2:=Ld hO;have HR2:=Ld hR;have HK2:=Ld hK;have HB3:=Ld (HB2.out.trans (hb.mono (show w.heap.size + 3 ≤ _ by omega)));have HG3:=Ld hb;clear q0 q1 q2 q3 q4 q5 q6 q7;obtain ⟨⟨q0,q1⟩,⟨q2,q3,q4⟩,⟨q5,q6⟩,q7,q8⟩:=HBX.out _ HB3.out;have HW3:=Ld q8;clear hb hd hn hO hR hK q8))
       | (go_at_call 111;go_must (refine (refUnpack_c kb w1).mono ?_;rintro e w2 ⟨hb,hm⟩;rw [HUK.out] at hm;obtain ⟨L1,A1,c1,rfl,hd,hn,hO,hR,hK⟩:=hm;have HD1:=Ld hd;have HN1:=Ld hn;have HO1:=Ld hO;have HR1:=Ld hR;have HK1:=Ld hK;have HB2:=Ld (HB1.out.trans (hb.mono (show w.heap.size + 3 ≤ _ by omega)));have HG2:=Ld hb;clear q0 q1 q2 q3 q4 q5 q6 q7;obtain ⟨⟨q0,q1⟩,⟨q2,q3,q4⟩,⟨q5,q6⟩,q7,q8⟩:=HBX.out _ HB2.out;have HW2:=Ld q8;clear hb hd hn hO hR hK q8)))
      have hk1 : 1 ≤ keys ∧ keys ≤ 16:=by have:=HSL.out;omega
      obtain ⟨hk1,hk2⟩:=hk1
      have HLD:=Ld (show lk.length = L1.length by rw [← HD1.out,dataL_eq,List.length_map])
      by_cases hl : L1.length = 0
      ·have HRES:=Ld (rowR_len H0.out HUK.out HUV.out (show (lk.length : Int) ≠ keys + 1 by rw [HLD.out,hl];omega))
       have hL0 : L1 = []:=List.eq_nil_of_length_eq_zero hl
       subst hL0
       clear hl
       have HQ:=Ld (fun W (h : Below w3.heap.size w3 W) => HBX.out W (HB3.out.trans (h.mono q7)))
       clear q0 q1 q2 q3 q4 q5 q6 q7
       refine wp_region_sched (S:=fun W => Below w3.heap.size w3 W) [(0,true),(1,true),(2,true),(3,true),(4,true),(5,true),(6,true),(7,true),(8,true),(9,true),(10,true),(11,true),(12,true),(13,true),(14,true),(15,true),(16,true),(17,true),(18,true),(19,true),(20,true),(21,true),(22,true),(23,true),(24,true),(25,true),(26,true)] (by kernel_rfl) (by kernel_rfl) (by kernel_rfl) (fun _ _ d _ _ h => by cases d <;> exact h) (Below.refl _ _).drew ?_
       repeat (first
        | (apply sched_take;(exact rfl);rfl;(intro W hW;obtain ⟨⟨q0,q1⟩,⟨q2,q3,q4⟩,⟨q5,q6⟩,q7,q8⟩:=HQ.out W hW;clear q8;go_simp;(try with_reducible rfl));simp only [Act.put,List.setIfInBounds_toArray,List.set_cons_zero,List.set_cons_succ])
        | (apply sched_pass;(exact rfl);rfl;simp only [Act.put,List.setIfInBounds_toArray,List.set_cons_zero,List.set_cons_succ]))
       refine sched_done ?_
       go_wp2
       obtain ⟨_,_,_,_,q8⟩:=HQ.out _ (Below.refl _ _)
       go_ret2
       exact ⟨q8.drew,by rw [HRES.out];rfl⟩
      ·obtain ⟨x0,Lr,hL1⟩ : ∃ x0 Lr,L1 = x0 :: Lr:=by
         cases hL : L1 with
         | nil => rw [hL] at hl;simp at hl
         | cons x0 Lr => exact ⟨x0,Lr,rfl⟩
       have hlz : ((L1.length : Int) < 1) = False:=by rw [eq_iff_iff,iff_false];omega
       have hlz1 : L1 ≠ []:=by intro e;rw [e] at hl;exact hl rfl
       have HKD:=Ld (show lk = x0.data :: VI.dataL Lr by rw [← HD1.out,hL1,VI.dataL])
       obtain ⟨b1,o1,hA1⟩ : ∃ b o,A1 = some ⟨b,o,none⟩:=by obtain ⟨b,o,e,_⟩:=HR1.out.rd.2 (by omega);exact ⟨b,o,e⟩
       subst hA1
       have HI0:=Ld (fun W (h : Below w3.heap.size w3 W) => first_at ((HR1.out.below (HG3.out.trans (h.mono HG3.out.size))).rd) hL1)
       obtain ⟨k0,hk0⟩ : ∃ k0,x0.k = k0:=⟨_,rfl⟩
       obtain ⟨t0,ht0⟩ : ∃ t0,x0.t = t0:=⟨_,rfl⟩
       rw [hk0,ht0] at HI0
       have HRS:=Ld (rowR_some H0.out (by rw [HUK.out,HKD.out]) HUV.out)
       rw [data_k,data_t,hk0,ht0] at HRS
       have HL1:=Ld hL1
       have hl0 : 0 < L1.length:=by omega
       clear hk0 ht0 hL1
       by_cases hk5 : k0 = 5
       ·have hk5' : (k0 != 5) = false:=by rw [hk5];rfl
        by_cases htn : t0 = tn
        ·have hbn : (t0.toList == tn.toList) = true:=by rw [htn];exact beq_self_eq_true _
         have HK5:=Ld hk5
         have HTN0:=Ld htn
         clear hk5 htn
         have hl1s : L1.length - 1 = Lr.length:=by rw [HL1.out];simp
         obtain ⟨A3,hsl,hsr⟩:=slice_from (P:=Tryz.prog) 28 6 Tryz.underlying28 (fun W => by kernel_rfl) (some ⟨b1,o1,none⟩) L1.length c1 1 1 rfl (by omega) HR1.out.hc
         have HD3:=Ld (fun W (h : RdI W (some ⟨b1,o1,none⟩) c1 L1) => drop_rd h (by omega) (hsr W _ h.rd))
         rw [hl1s] at hsl
         have HLD3:=Ld (show L1.drop 1 = Lr by rw [HL1.out];rfl)
         rw [HLD3.out] at HD3
         have HR3:=Ld (HD3.out w3 (HR1.out.below HG3.out))
         have HL1S:=Ld hl1s
         obtain ⟨d3,hd3⟩ : ∃ d3,c1 - 1 = d3:=⟨_,rfl⟩
         rw [hd3] at hsl HR3
         clear hl1s hsr hd3 HD3
         have HQ:=Ld (fun W (h : Below w3.heap.size w3 W) => HBX.out W (HB3.out.trans (h.mono q7)))
         clear q0 q1 q2 q3 q4 q5 q6 q7
         refine wp_region_sched (S:=fun W => Below w3.heap.size w3 W) [(0,true),(1,true),(2,true),(3,true),(4,true),(5,true),(6,true),(7,true),(8,true),(9,true),(10,true),(11,true),(12,true),(13,true),(14,true),(15,true),(16,true),(17,true),(18,true),(19,true),(20,true),(21,true),(22,true),(23,true),(24,true),(25,true),(26,true)] (by kernel_rfl) (by kernel_rfl) (by kernel_rfl) (fun _ _ d _ _ h => by cases d <;> exact h) (Below.refl _ _).drew ?_
         repeat (first
          | (apply sched_take;(exact rfl);rfl;(intro W hW;obtain ⟨⟨q0,q1⟩,⟨q2,q3,q4⟩,⟨q5,q6⟩,q7,q8⟩:=HQ.out W hW;obtain ⟨i0,i4,i6⟩:=HI0.out W hW;clear q8;go_simp;(try with_reducible rfl));simp only [Act.put,List.setIfInBounds_toArray,List.set_cons_zero,List.set_cons_succ])
          | (apply sched_pass;(exact rfl);rfl;simp only [Act.put,List.setIfInBounds_toArray,List.set_cons_zero,List.set_cons_succ]))
         refine sched_done ?_
         have HR2X:=Ld (HR2.out.below (Below.refl w3.heap.size w3).drew)
         have HLRL:=Ld (show (Lr.length) * 64 ≤ 140737488355328 by have:=HN1.out;have:=HL1S.out;omega)
         by_cases hlr : (Lr.length : Int) = keys
         case neg =>
          have hlk : ((Lr.length : Int) != keys) = true:=by rw [bne_iff_ne];exact hlr
          have HRES:=Ld (HRS.out.trans (if_pos (.inl (by rw [dataL_eq,List.length_map];exact hlr))))
          clear hlr HRS
          go_wp2_with (at_builtin;go_must (refine wpList_items (B:=w3.heap.size) (l:=[]) (ys:=Lr) rfl (.tmp 62) (.tmp 64) rfl (OwnI.nil _ _) rfl rfl (HR3.out.below (Below.refl w3.heap.size w3).drew).rd rfl (HR3.out.below (Below.refl w3.heap.size w3).drew).hx (fun y hy => ((HR3.out.below (Below.refl w3.heap.size w3).drew).hx y hy).blk.mono fun k hk e => by cases e) (by have:=HLRL.out;simp only [List.length_nil];omega) (Below.refl w3.heap.size w3).drew.size ?_;intro v4 w4 hO4 hK4 _;rw [List.nil_append] at hO4;obtain ⟨A4,c4,hv4,_⟩:=hO4.rdi HLRL.out;subst hv4;have HO4:=Ld hO4;have HG4:=Ld (show Below w3.heap.size w3 w4 from (Below.refl _ _).drew.trans (hK4.below (Below.refl w3.heap.size w3).drew.size (fun j hj e => by cases e)));have HR24:=Ld (HR2.out.below HG4.out);clear hO4 hK4;obtain ⟨⟨q0,q1⟩,⟨q2,q3,q4⟩,⟨q5,q6⟩,q7,q8⟩:=HQ.out _ HG4.out;clear q8))
          obtain ⟨_,_,_,_,q8⟩:=HQ.out _ HG4.out
          go_ret2
          exact ⟨q8,by rw [HRES.out];rfl⟩
         have hlk : ((Lr.length : Int) != keys) = false:=by rw [bne_eq_false_iff_eq];exact hlr
         have HLR:=Ld hlr
         have HRES0:=Ld (HRS.out.trans (if_neg (by rintro (h | h | h);exact h (by rw [dataL_eq,List.length_map];exact HLR.out);exact h HK5.out;exact h (by rw [HTN0.out]))))
         clear hlr HRS
         go_upto_region 12 with (at_builtin;go_must (refine wpList_items (B:=w3.heap.size) (l:=[]) (ys:=Lr) rfl (.tmp 62) (.tmp 64) rfl (OwnI.nil _ _) rfl rfl (HR3.out.below (Below.refl w3.heap.size w3).drew).rd rfl (HR3.out.below (Below.refl w3.heap.size w3).drew).hx (fun y hy => ((HR3.out.below (Below.refl w3.heap.size w3).drew).hx y hy).blk.mono fun k hk e => by cases e) (by have:=HLRL.out;simp only [List.length_nil];omega) (Below.refl w3.heap.size w3).drew.size ?_;intro v4 w4 hO4 hK4 _;rw [List.nil_append] at hO4;obtain ⟨A4,c4,hv4,_⟩:=hO4.rdi HLRL.out;subst hv4;have HO4:=Ld hO4;have HG4:=Ld (show Below w3.heap.size w3 w4 from (Below.refl _ _).drew.trans (hK4.below (Below.refl w3.heap.size w3).drew.size (fun j hj e => by cases e)));have HR24:=Ld (HR2.out.below HG4.out);clear hO4 hK4;obtain ⟨⟨q0,q1⟩,⟨q2,q3,q4⟩,⟨q5,q6⟩,q7,q8⟩:=HQ.out _ HG4.out;clear q8))
         go_upto_region 13 with (at_builtin;go_must (refine wpList_items (B:=w3.heap.size) (l:=Lr) (ys:=L2) rfl (.tmp 71) (.tmp 72) rfl HO4.out rfl rfl HR24.out.rd rfl HR24.out.hx (fun y hy => (HR2.out.hx y hy).blk.mono fun k hk e => by have:=(HO4.out.own.lt k e).1;omega) (by have:=HN1.out;have:=HN2.out;have:=HLR.out;omega) HG4.out.size ?_;intro v5 w5 hO5 hK5 _;have HO5:=Ld hO5;have HG5:=Ld (HG4.out.trans (hK5.below HG4.out.size (fun j hj e => by have:=(HO4.out.own.lt j e).1;omega)));clear hO5 hK5))
         have hLR64 : (Lr ++ L2).length * 64 ≤ 140737488355328:=by have:=HN1.out;have:=HN2.out;have:=HLR.out;rw [List.length_append];omega
         obtain ⟨AR,cR,hv5,hRL⟩:=HO5.out.rdi hLR64
         subst hv5
         obtain ⟨LR,hLR⟩ : ∃ LR,Lr ++ L2 = LR:=⟨_,rfl⟩
         have HDR:=Ld (show VI.dataL LR = VI.dataL Lr ++ lv by rw [← hLR,← HD2.out,dataL_eq,dataL_eq,dataL_eq,List.map_append])
         have HBLK:=Ld (show ∀ x ∈ LR,BlkV (fun k => w.heap.size ≤ k) x from fun x hx => by
          rw [← hLR] at hx
          rcases List.mem_append.1 hx with hx | hx
          ·exact (HK1.out x (by rw [HL1.out];exact List.mem_cons_of_mem _ hx)).mono fun k hk => by have:=HW1.out.size;omega
          ·exact (HK2.out x hx).mono fun k hk => by have:=HW2.out.size;omega)
         have hkl : keys.toNat ≤ LR.length:=by have:=HLR.out;rw [← hLR,List.length_append];omega
         rw [hLR] at HO5 hRL ⊢
         have HRL:=Ld hRL
         clear hLR64 hLR hRL
         obtain ⟨bR,oR,hAR⟩ : ∃ b o,AR = some ⟨b,o,none⟩:=by obtain ⟨b,o,e,_⟩:=HRL.out.rd.2 (by omega);exact ⟨b,o,e⟩
         have hsl2:=slice_to (P:=Tryz.prog) 28 Tryz.underlying28 ⟨6,fun W => by kernel_rfl⟩ bR oR LR.length cR keys.toNat keys (by omega) (by have:=HRL.out.hc;omega)
         rw [← hAR] at hsl2
         have hkl2 : (LR.take keys.toNat).length = keys.toNat:=by rw [List.length_take];omega
         obtain ⟨LK,hLK⟩ : ∃ LK,LR.take keys.toNat = LK:=⟨_,rfl⟩
         rw [← hkl2,hLK] at hsl2
         have HRK:=Ld (show RdI w5.drew AR cR LK by rw [← hLK];exact take_rd (HRL.out.below (Below.refl _ _).drew) hkl)
         have HDK:=Ld (show VI.dataL LK = (VI.dataL Lr ++ lv).take keys.toNat by rw [← hLK,← HDR.out,dataL_eq,dataL_eq,List.map_take])
         clear hkl hkl2 hLK hAR
         have HW5:=Ld (show Below w.heap.size w w5 from HW3.out.trans (HG5.out.mono HW3.out.size))
         have HQ5:=Ld (fun W (h : Below w5.heap.size w5 W) => HQ.out W (HG5.out.trans (h.mono HG5.out.size)))
         rw [← HDK.out,← HDR.out] at HRES0
         obtain ⟨⟨kx,ke⟩,hkr⟩ : ∃ p,keyR pg wd ⟨tn,cols,keys⟩ (VI.dataL LK) = p:=⟨_,rfl⟩
         obtain ⟨⟨vx,ve⟩,hvr⟩ : ∃ p,valR pg wd ⟨tn,cols,keys⟩ (VI.dataL LR) = p:=⟨_,rfl⟩
         rw [hkr,hvr] at HRES0
         have HKR:=Ld hkr
         have HVR:=Ld hvr
         obtain ⟨KB,hKB⟩ : ∃ KB : ByteArray,(⟨kx.toArray⟩ : ByteArray) = KB:=⟨_,rfl⟩
         obtain ⟨VB,hVB⟩ : ∃ VB : ByteArray,(⟨vx.toArray⟩ : ByteArray) = VB:=⟨_,rfl⟩
         have HKX:=Ld (show kx = KB.toList by rw [← hKB,ByteArray.toList_eq])
         have HVX:=Ld (show vx = VB.toList by rw [← hVB,ByteArray.toList_eq])
         have HKB:=Ld hKB
         have HVB:=Ld hVB
         clear hkr hvr hKB hVB
         by_cases c1 : ke = 0
         ·by_cases c2 : ve = 0
          ·by_cases c3 : kx = kb.data.toList
           ·by_cases c4 : vx = vb.data.toList
            ·have HRES:=Ld (HRES0.out.trans (if_neg (by rintro (h | h | h | h);exact h c1;exact h c2;exact h c3;exact h c4)))
             have hz1:=zz c1
             have hz2:=zz c2
             have hx1 : (KB.toList == kb.toList) = true:=by rw [beq_iff_eq,← HKX.out,c3,ByteArray.toList_eq]
             have hx2 : (VB.toList == vb.toList) = true:=by rw [beq_iff_eq,← HVX.out,c4,ByteArray.toList_eq]
             clear c1 c2 c3 c4
             clear HR2X
             refine wp_region_sched (S:=fun W => Below w5.heap.size w5 W) [(0,true),(1,true),(2,true),(3,true),(4,true),(5,true),(6,false),(7,true),(8,true),(9,true),(10,true),(11,true)] (by kernel_rfl) (by kernel_rfl) (by kernel_rfl) (fun _ _ d _ _ h => by cases d <;> exact h) (Below.refl _ _).drew ?_
             repeat (first
              | (apply sched_take;(exact rfl);rfl;(intro W hW;obtain ⟨⟨q0,q1⟩,⟨q2,q3,q4⟩,⟨q5,q6⟩,q7,q8⟩:=HQ5.out W hW;clear q8;go_simp;(try with_reducible rfl));simp only [Act.put,List.setIfInBounds_toArray,List.set_cons_zero,List.set_cons_succ])
              | (apply sched_pass;(exact rfl);rfl;simp only [Act.put,List.setIfInBounds_toArray,List.set_cons_zero,List.set_cons_succ]))
             apply sched_run;(exact rfl);rfl;intro K hK;go_simp
             refine (refKeyOf_c pg wd A c ⟨tn,cols,keys⟩ AR cR LK w5.drew (HR.out.below HW5.out.drew) HRK.out).mono ?_
             rintro e w6 ⟨rfl,hb6⟩
             rw [HKR.out]
             simp only [HKB.out]
             have HB6:=Ld (show Below w5.heap.size w5 w6 from (Below.refl _ _).drew.trans hb6)
             refine hK.out _ _ HB6.out (fun _ => ?_)
             clear hK K hb6
             try simp only [Act.put,List.setIfInBounds_toArray,List.set_cons_zero,List.set_cons_succ]
             repeat (first
              | (apply sched_take;(exact rfl);rfl;(intro W hW;obtain ⟨⟨q0,q1⟩,⟨q2,q3,q4⟩,⟨q5,q6⟩,q7,q8⟩:=HQ5.out W hW;clear q8;go_simp;(try with_reducible rfl));simp only [Act.put,List.setIfInBounds_toArray,List.set_cons_zero,List.set_cons_succ])
              | (apply sched_pass;(exact rfl);rfl;simp only [Act.put,List.setIfInBounds_toArray,List.set_cons_zero,List.set_cons_succ]))
             refine sched_done ?_
             obtain ⟨⟨q0,q1⟩,⟨q2,q3,q4⟩,⟨q5,q6⟩,q7,q8⟩:=HQ5.out w6 HB6.out
             have HW6:=Ld q8
             clear q8
             go_wp2_with (go_at_call 113;go_must (refine (refValOf_c pg wd A c ⟨tn,cols,keys⟩ AR cR LR w6 (HR.out.below HW6.out) (HRL.out.below HB6.out)).mono ?_;rintro e w7 ⟨rfl,hb7⟩;rw [HVR.out];simp only [HVB.out];have HB7:=Ld (HB6.out.trans (hb7.mono HB6.out.size));clear q0 q1 q2 q3 q4 q5 q6 q7;obtain ⟨⟨q0,q1⟩,⟨q2,q3,q4⟩,⟨q5,q6⟩,q7,q8⟩:=HQ5.out w7 HB7.out;have HW7:=Ld q8;clear hb7 q8))
             go_ret2
             refine ⟨HW7.out,?_⟩
             rw [HRES.out]
             exact ⟨LR,AR,cR,rfl,rfl,⟨ownsRow_mono' (HO5.out.below HB7.out).own (by have:=HB1.out.size;have:=HW3.out.size;omega),(HO5.out.below HB7.out).rd,HO5.out.ne⟩,HRL.out.below HB7.out,HBLK.out⟩
            ·have HRES:=Ld (HRES0.out.trans (if_pos (.inr (.inr (.inr c4)))))
             have hz1:=zz c1
             have hz2:=zz c2
             have hx1 : (KB.toList == kb.toList) = true:=by rw [beq_iff_eq,← HKX.out,c3,ByteArray.toList_eq]
             have hx2 : (VB.toList == vb.toList) = false:=by rw [beq_eq_false_iff_ne,← HVX.out,ByteArray.toList_eq];exact c4
             clear c1 c2 c3 c4
             clear HR2X
             refine wp_region_sched (S:=fun W => Below w5.heap.size w5 W) [(0,true),(1,true),(2,true),(3,true),(4,true),(5,true),(6,false),(7,true),(8,true),(9,true),(10,true),(11,true)] (by kernel_rfl) (by kernel_rfl) (by kernel_rfl) (fun _ _ d _ _ h => by cases d <;> exact h) (Below.refl _ _).drew ?_
             repeat (first
              | (apply sched_take;(exact rfl);rfl;(intro W hW;obtain ⟨⟨q0,q1⟩,⟨q2,q3,q4⟩,⟨q5,q6⟩,q7,q8⟩:=HQ5.out W hW;clear q8;go_simp;(try with_reducible rfl));simp only [Act.put,List.setIfInBounds_toArray,List.set_cons_zero,List.set_cons_succ])
              | (apply sched_pass;(exact rfl);rfl;simp only [Act.put,List.setIfInBounds_toArray,List.set_cons_zero,List.set_cons_succ]))
             apply sched_run;(exact rfl);rfl;intro K hK;go_simp
             refine (refKeyOf_c pg wd A c ⟨tn,cols,keys⟩ AR cR LK w5.drew (HR.out.below HW5.out.drew) HRK.out).mono ?_
             rintro e w6 ⟨rfl,hb6⟩
             rw [HKR.out]
             simp only [HKB.out]
             have HB6:=Ld (show Below w5.heap.size w5 w6 from (Below.refl _ _).drew.trans hb6)
             refine hK.out _ _ HB6.out (fun _ => ?_)
             clear hK K hb6
             try simp only [Act.put,List.setIfInBounds_toArray,List.set_cons_zero,List.set_cons_succ]
             repeat (first
              | (apply sched_take;(exact rfl);rfl;(intro W hW;obtain ⟨⟨q0,q1⟩,⟨q2,q3,q4⟩,⟨q5,q6⟩,q7,q8⟩:=HQ5.out W hW;clear q8;go_simp;(try with_reducible rfl));simp only [Act.put,List.setIfInBounds_toArray,List.set_cons_zero,List.set_cons_succ])
              | (apply sched_pass;(exact rfl);rfl;simp only [Act.put,List.setIfInBounds_toArray,List.set_cons_zero,List.set_cons_succ]))
             refine sched_done ?_
             obtain ⟨⟨q0,q1⟩,⟨q2,q3,q4⟩,⟨q5,q6⟩,q7,q8⟩:=HQ5.out w6 HB6.out
             have HW6:=Ld q8
             clear q8
             go_wp2_with (go_at_call 113;go_must (refine (refValOf_c pg wd A c ⟨tn,cols,keys⟩ AR cR LR w6 (HR.out.below HW6.out) (HRL.out.below HB6.out)).mono ?_;rintro e w7 ⟨rfl,hb7⟩;rw [HVR.out];simp only [HVB.out];have HB7:=Ld (HB6.out.trans (hb7.mono HB6.out.size));clear q0 q1 q2 q3 q4 q5 q6 q7;obtain ⟨⟨q0,q1⟩,⟨q2,q3,q4⟩,⟨q5,q6⟩,q7,q8⟩:=HQ5.out w7 HB7.out;have HW7:=Ld q8;clear hb7 q8))
             go_ret2
             exact ⟨HW7.out,by rw [HRES.out];rfl⟩
           ·have HRES:=Ld (HRES0.out.trans (if_pos (.inr (.inr (.inl c3)))))
            have hz1:=zz c1
            have hz2:=zz c2
            have hx1 : (KB.toList == kb.toList) = false:=by rw [beq_eq_false_iff_ne,← HKX.out,ByteArray.toList_eq];exact c3
            clear c1 c2 c3
            clear HR2X
            refine wp_region_sched (S:=fun W => Below w5.heap.size w5 W) [(0,true),(1,true),(2,true),(3,true),(4,true),(5,true),(6,false),(7,true),(8,true),(9,true),(10,true),(11,true)] (by kernel_rfl) (by kernel_rfl) (by kernel_rfl) (fun _ _ d _ _ h => by cases d <;> exact h) (Below.refl _ _).drew ?_
            repeat (first
             | (apply sched_take;(exact rfl);rfl;(intro W hW;obtain ⟨⟨q0,q1⟩,⟨q2,q3,q4⟩,⟨q5,q6⟩,q7,q8⟩:=HQ5.out W hW;clear q8;go_simp;(try with_reducible rfl));simp only [Act.put,List.setIfInBounds_toArray,List.set_cons_zero,List.set_cons_succ])
             | (apply sched_pass;(exact rfl);rfl;simp only [Act.put,List.setIfInBounds_toArray,List.set_cons_zero,List.set_cons_succ]))
            apply sched_run;(exact rfl);rfl;intro K hK;go_simp
            refine (refKeyOf_c pg wd A c ⟨tn,cols,keys⟩ AR cR LK w5.drew (HR.out.below HW5.out.drew) HRK.out).mono ?_
            rintro e w6 ⟨rfl,hb6⟩
            rw [HKR.out]
            simp only [HKB.out]
            have HB6:=Ld (show Below w5.heap.size w5 w6 from (Below.refl _ _).drew.trans hb6)
            refine hK.out _ _ HB6.out (fun _ => ?_)
            clear hK K hb6
            try simp only [Act.put,List.setIfInBounds_toArray,List.set_cons_zero,List.set_cons_succ]
            repeat (first
             | (apply sched_take;(exact rfl);rfl;(intro W hW;obtain ⟨⟨q0,q1⟩,⟨q2,q3,q4⟩,⟨q5,q6⟩,q7,q8⟩:=HQ5.out W hW;clear q8;go_simp;(try with_reducible rfl));simp only [Act.put,List.setIfInBounds_toArray,List.set_cons_zero,List.set_cons_succ])
             | (apply sched_pass;(exact rfl);rfl;simp only [Act.put,List.setIfInBounds_toArray,List.set_cons_zero,List.set_cons_succ]))
            refine sched_done ?_
            obtain ⟨⟨q0,q1⟩,⟨q2,q3,q4⟩,⟨q5,q6⟩,q7,q8⟩:=HQ5.out w6 HB6.out
            have HW6:=Ld q8
            clear q8
            go_wp2_with (go_at_call 113;go_must (refine (refValOf_c pg wd A c ⟨tn,cols,keys⟩ AR cR LR w6 (HR.out.below HW6.out) (HRL.out.below HB6.out)).mono ?_;rintro e w7 ⟨rfl,hb7⟩;rw [HVR.out];simp only [HVB.out];have HB7:=Ld (HB6.out.trans (hb7.mono HB6.out.size));clear q0 q1 q2 q3 q4 q5 q6 q7;obtain ⟨⟨q0,q1⟩,⟨q2,q3,q4⟩,⟨q5,q6⟩,q7,q8⟩:=HQ5.out w7 HB7.out;have HW7:=Ld q8;clear hb7 q8))
            go_ret2
            exact ⟨HW7.out,by rw [HRES.out];rfl⟩
          ·have HRES:=Ld (HRES0.out.trans (if_pos (.inr (.inl c2))))
           have hz1:=zz c1
           have hz2:=nz c2
           clear c1 c2
           clear HR2X
           refine wp_region_sched (S:=fun W => Below w5.heap.size w5 W) [(0,true),(1,true),(2,true),(3,true),(4,true),(5,true),(6,false),(7,true),(8,true),(9,true),(10,true),(11,true)] (by kernel_rfl) (by kernel_rfl) (by kernel_rfl) (fun _ _ d _ _ h => by cases d <;> exact h) (Below.refl _ _).drew ?_
           repeat (first
            | (apply sched_take;(exact rfl);rfl;(intro W hW;obtain ⟨⟨q0,q1⟩,⟨q2,q3,q4⟩,⟨q5,q6⟩,q7,q8⟩:=HQ5.out W hW;clear q8;go_simp;(try with_reducible rfl));simp only [Act.put,List.setIfInBounds_toArray,List.set_cons_zero,List.set_cons_succ])
            | (apply sched_pass;(exact rfl);rfl;simp only [Act.put,List.setIfInBounds_toArray,List.set_cons_zero,List.set_cons_succ]))
           apply sched_run;(exact rfl);rfl;intro K hK;go_simp
           refine (refKeyOf_c pg wd A c ⟨tn,cols,keys⟩ AR cR LK w5.drew (HR.out.below HW5.out.drew) HRK.out).mono ?_
           rintro e w6 ⟨rfl,hb6⟩
           rw [HKR.out]
           simp only [HKB.out]
           have HB6:=Ld (show Below w5.heap.size w5 w6 from (Below.refl _ _).drew.trans hb6)
           refine hK.out _ _ HB6.out (fun _ => ?_)
           clear hK K hb6
           try simp only [Act.put,List.setIfInBounds_toArray,List.set_cons_zero,List.set_cons_succ]
           repeat (first
            | (apply sched_take;(exact rfl);rfl;(intro W hW;obtain ⟨⟨q0,q1⟩,⟨q2,q3,q4⟩,⟨q5,q6⟩,q7,q8⟩:=HQ5.out W hW;clear q8;go_simp;(try with_reducible rfl));simp only [Act.put,List.setIfInBounds_toArray,List.set_cons_zero,List.set_cons_succ])
            | (apply sched_pass;(exact rfl);rfl;simp only [Act.put,List.setIfInBounds_toArray,List.set_cons_zero,List.set_cons_succ]))
           refine sched_done ?_
           obtain ⟨⟨q0,q1⟩,⟨q2,q3,q4⟩,⟨q5,q6⟩,q7,q8⟩:=HQ5.out w6 HB6.out
           have HW6:=Ld q8
           clear q8
           go_wp2_with (go_at_call 113;go_must (refine (refValOf_c pg wd A c ⟨tn,cols,keys⟩ AR cR LR w6 (HR.out.below HW6.out) (HRL.out.below HB6.out)).mono ?_;rintro e w7 ⟨rfl,hb7⟩;rw [HVR.out];simp only [HVB.out];have HB7:=Ld (HB6.out.trans (hb7.mono HB6.out.size));clear q0 q1 q2 q3 q4 q5 q6 q7;obtain ⟨⟨q0,q1⟩,⟨q2,q3,q4⟩,⟨q5,q6⟩,q7,q8⟩:=HQ5.out w7 HB7.out;have HW7:=Ld q8;clear hb7 q8))
           go_ret2
           exact ⟨HW7.out,by rw [HRES.out];rfl⟩
         ·have HRES:=Ld (HRES0.out.trans (if_pos (.inl c1)))
          have hz1:=nz c1
          clear c1
          clear HR2X
          refine wp_region_sched (S:=fun W => Below w5.heap.size w5 W) [(0,true),(1,true),(2,true),(3,true),(4,true),(5,true),(6,false),(7,true),(8,true),(9,true),(10,true),(11,true)] (by kernel_rfl) (by kernel_rfl) (by kernel_rfl) (fun _ _ d _ _ h => by cases d <;> exact h) (Below.refl _ _).drew ?_
          repeat (first
           | (apply sched_take;(exact rfl);rfl;(intro W hW;obtain ⟨⟨q0,q1⟩,⟨q2,q3,q4⟩,⟨q5,q6⟩,q7,q8⟩:=HQ5.out W hW;clear q8;go_simp;(try with_reducible rfl));simp only [Act.put,List.setIfInBounds_toArray,List.set_cons_zero,List.set_cons_succ])
           | (apply sched_pass;(exact rfl);rfl;simp only [Act.put,List.setIfInBounds_toArray,List.set_cons_zero,List.set_cons_succ]))
          apply sched_run;(exact rfl);rfl;intro K hK;go_simp
          refine (refKeyOf_c pg wd A c ⟨tn,cols,keys⟩ AR cR LK w5.drew (HR.out.below HW5.out.drew) HRK.out).mono ?_
          rintro e w6 ⟨rfl,hb6⟩
          rw [HKR.out]
          simp only [HKB.out]
          have HB6:=Ld (show Below w5.heap.size w5 w6 from (Below.refl _ _).drew.trans hb6)
          refine hK.out _ _ HB6.out (fun _ => ?_)
          clear hK K hb6
          try simp only [Act.put,List.setIfInBounds_toArray,List.set_cons_zero,List.set_cons_succ]
          repeat (first
           | (apply sched_take;(exact rfl);rfl;(intro W hW;obtain ⟨⟨q0,q1⟩,⟨q2,q3,q4⟩,⟨q5,q6⟩,q7,q8⟩:=HQ5.out W hW;clear q8;go_simp;(try with_reducible rfl));simp only [Act.put,List.setIfInBounds_toArray,List.set_cons_zero,List.set_cons_succ])
           | (apply sched_pass;(exact rfl);rfl;simp only [Act.put,List.setIfInBounds_toArray,List.set_cons_zero,List.set_cons_succ]))
          refine sched_done ?_
          obtain ⟨⟨q0,q1⟩,⟨q2,q3,q4⟩,⟨q5,q6⟩,q7,q8⟩:=HQ5.out w6 HB6.out
          have HW6:=Ld q8
          clear q8
          go_wp2_with (go_at_call 113;go_must (refine (refValOf_c pg wd A c ⟨tn,cols,keys⟩ AR cR LR w6 (HR.out.below HW6.out) (HRL.out.below HB6.out)).mono ?_;rintro e w7 ⟨rfl,hb7⟩;rw [HVR.out];simp only [HVB.out];have HB7:=Ld (HB6.out.trans (hb7.mono HB6.out.size));clear q0 q1 q2 q3 q4 q5 q6 q7;obtain ⟨⟨q0,q1⟩,⟨q2,q3,q4⟩,⟨q5,q6⟩,q7,q8⟩:=HQ5.out w7 HB7.out;have HW7:=Ld q8;clear hb7 q8))
          go_ret2
          exact ⟨HW7.out,by rw [HRES.out];rfl⟩
        ·have HTN:=Ld htn
         have HRES:=Ld (HRS.out.trans (if_pos (.inr (.inr (fun e => HTN.out (bytes_eq e))))))
         have hbn : (t0.toList == tn.toList) = false:=by rw [beq_eq_false_iff_ne,ByteArray.toList_eq,ByteArray.toList_eq];exact fun e => htn (bytes_eq e)
         clear HRS hk5 htn
         have HQ:=Ld (fun W (h : Below w3.heap.size w3 W) => HBX.out W (HB3.out.trans (h.mono q7)))
         clear q0 q1 q2 q3 q4 q5 q6 q7
         refine wp_region_sched (S:=fun W => Below w3.heap.size w3 W) [(0,true),(1,true),(2,true),(3,true),(4,true),(5,true),(6,true),(7,true),(8,true),(9,true),(10,true),(11,true),(12,true),(13,true),(14,true),(15,true),(16,true),(17,true),(18,true),(19,true),(20,true),(21,true),(22,true),(23,true),(24,true),(25,true),(26,true)] (by kernel_rfl) (by kernel_rfl) (by kernel_rfl) (fun _ _ d _ _ h => by cases d <;> exact h) (Below.refl _ _).drew ?_
         repeat (first
          | (apply sched_take;(exact rfl);rfl;(intro W hW;obtain ⟨⟨q0,q1⟩,⟨q2,q3,q4⟩,⟨q5,q6⟩,q7,q8⟩:=HQ.out W hW;obtain ⟨i0,i4,i6⟩:=HI0.out W hW;clear q8;go_simp;(try with_reducible rfl));simp only [Act.put,List.setIfInBounds_toArray,List.set_cons_zero,List.set_cons_succ])
          | (apply sched_pass;(exact rfl);rfl;simp only [Act.put,List.setIfInBounds_toArray,List.set_cons_zero,List.set_cons_succ]))
         refine sched_done ?_
         skip
         go_wp2
         obtain ⟨_,_,_,_,q8⟩:=HQ.out _ (Below.refl _ _)
         go_ret2
         exact ⟨q8.drew,by rw [HRES.out];rfl⟩
       ·have hk5' : (k0 != 5) = true:=by rw [bne_iff_ne];exact hk5
        have HRES:=Ld (HRS.out.trans (if_pos (.inr (.inl hk5))))
        clear HRS hk5
        have HQ:=Ld (fun W (h : Below w3.heap.size w3 W) => HBX.out W (HB3.out.trans (h.mono q7)))
        clear q0 q1 q2 q3 q4 q5 q6 q7
        refine wp_region_sched (S:=fun W => Below w3.heap.size w3 W) [(0,true),(1,true),(2,true),(3,true),(4,true),(5,true),(6,true),(7,true),(8,true),(9,true),(10,true),(11,true),(12,true),(13,true),(14,true),(15,true),(16,true),(17,true),(18,true),(19,true),(20,true),(21,true),(22,true),(23,true),(24,true),(25,true),(26,true)] (by kernel_rfl) (by kernel_rfl) (by kernel_rfl) (fun _ _ d _ _ h => by cases d <;> exact h) (Below.refl _ _).drew ?_
        repeat (first
         | (apply sched_take;(exact rfl);rfl;(intro W hW;obtain ⟨⟨q0,q1⟩,⟨q2,q3,q4⟩,⟨q5,q6⟩,q7,q8⟩:=HQ.out W hW;obtain ⟨i0,i4,i6⟩:=HI0.out W hW;clear q8;go_simp;(try with_reducible rfl));simp only [Act.put,List.setIfInBounds_toArray,List.set_cons_zero,List.set_cons_succ])
         | (apply sched_pass;(exact rfl);rfl;simp only [Act.put,List.setIfInBounds_toArray,List.set_cons_zero,List.set_cons_succ]))
        refine sched_done ?_
        skip
        go_wp2
        obtain ⟨_,_,_,_,q8⟩:=HQ.out _ (Below.refl _ _)
        go_ret2
        exact ⟨q8.drew,by rw [HRES.out];rfl⟩
 ·have hz0:=nz h0
  have HRES:=Ld (show rowR pg wd ⟨tn,cols,keys⟩ kb.data.toList vb.data.toList = (none,chkT pg wd ⟨tn,cols,keys⟩) by rw [rowR,if_pos h0])
  clear h0
  go_enter Tryz.func80,Tryz.ntmps80
  go_wp2_with (go_at_call 31;go_must (refine (refCheck25_c pg wd A c ⟨tn,cols,keys⟩ _ (HR.out.below HW0.out)).mono ?_;rintro e w1 ⟨rfl,hb1⟩;have HB1:=Ld (hb1.mono (show w.heap.size + 3 ≤ _ by simp));obtain ⟨⟨q0,q1⟩,⟨q2,q3,q4⟩,⟨q5,q6⟩,q7,q8⟩:=HBX.out _ HB1.out;have HW1:=Ld q8;clear hb1 q8))
  go_ret2
  exact ⟨HW1.out,by rw [HRES.out];rfl⟩
end
end Go.Proofs.YtonjgedhmmnolaaGreatDoor
