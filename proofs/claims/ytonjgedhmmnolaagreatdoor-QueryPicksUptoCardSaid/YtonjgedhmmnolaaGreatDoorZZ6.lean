import Derived.Test.YtonjgedhmmnolaaGreatDoorZ22
namespace Go.Proofs.YtonjgedhmmnolaaGreatDoor
section
open Go.RowKit
set_option maxHeartbeats 2000000
set_option maxRecDepth 100000
theorem refKeyOf_c [Inhabited Thr] (pg wd : Int) (A : Option Addr) (c : Nat) (t : TabD) (B : Option Addr) (d : Nat) (l : List VI) (w : World) (hR : RdT w A c t) (hL : RdI w B d l) :
 Calls Tryz.prog 112 #[vF pg wd,vT t A c,.slice B l.length d] w fun e w' => e = .returned (.tuple #[.string ⟨(keyR pg wd t (VI.dataL l)).1.toArray⟩,.int .i64 (keyR pg wd t (VI.dataL l)).2]) ∧ Below w.heap.size w w':=by
 have HR:=Ld hR
 have HL:=Ld hL
 have hlen:=hR.hb
 have hlen2:=hL.hb
 have hkk:=hR.hk
 rcases t with ⟨tn,cols,keys⟩
 simp only at hlen hkk
 have HDL:=Ld (show (VI.dataL l).length = l.length by rw [dataL_eq,List.length_map])
 have HBX:=Ld (fun W (h : Below (w.heap.size + 2) ((w.alloc (.cells #[.int .i64 pg,.int .i64 wd] 24)).alloc (.cells #[.string tn,.slice A cols.length c,.int .i64 keys] 27)) W) => boxes_ft h)
 clear hR hL
 by_cases h0 : chkT pg wd ⟨tn,cols,keys⟩ = 0
 ·have HOK:=Ld (chkT_ok h0)
  have HSL:=Ld (shaped_len HOK.out.2)
  have HPG:=Ld (right_pg HOK.out.1)
  have hz0 : ((chkT pg wd ⟨tn,cols,keys⟩ : Int) != 0) = false:=zz h0
  by_cases h1 : ((l.length : Int) != keys) = true
  ·have HRES:=Ld (show keyR pg wd ⟨tn,cols,keys⟩ (VI.dataL l) = ([],251) by rw [keyR,if_neg (by rw [h0];decide),if_pos (.inl (by rw [HDL.out];simpa using h1))])
   clear h0
   go_enter Tryz.func112,Tryz.ntmps112
   go_wp2_with (first
    | (go_at_call 31;go_must (refine (refCheck25_c pg wd A c ⟨tn,cols,keys⟩ _ (HR.out.below (two_below w _ _))).mono ?_;rintro e w1 ⟨rfl,hb1⟩;have HB1:=Ld (hb1.mono (show w.heap.size + 2 ≤ _ by simp));obtain ⟨⟨q0,q1⟩,⟨q2,q3,q4⟩,q5,q6⟩:=HBX.out _ HB1.out;have HW1:=Ld q6;clear hb1 q6)))
   obtain ⟨_,_,_,qb⟩:=HBX.out _ HB1.out
   go_ret2
   exact ⟨by rw [HRES.out];rfl,qb⟩
  ·by_cases h2 : fitL cols (VI.dataL l) = true
   ·have HFT:=Ld h2
    have HLE:=Ld (show (l.length : Int) = keys by simpa using h1)
    have HLL:=Ld (show l.length ≤ 1000 by have:=HSL.out;have:=HLE.out;simp only at *;omega)
    by_cases h3 : chkL (underL ⟨tn,cols,keys⟩ (VI.dataL l)) = 0
    ·have HPE:=Ld (show packE (VI.dataL (vText tn :: l)) = _ from (congrArg packE (under_data ⟨tn,cols,keys⟩ l)).trans (pe0 h3))
     have HSZ:=Ld (show (⟨(packL (underL ⟨tn,cols,keys⟩ (VI.dataL l))).toArray⟩ : ByteArray).size = (packL (underL ⟨tn,cols,keys⟩ (VI.dataL l))).length by simp [ByteArray.size])
     by_cases h4 : pg / 16 - 1 < ((packL (underL ⟨tn,cols,keys⟩ (VI.dataL l))).length : Int)
     ·have HRES:=Ld (show keyR pg wd ⟨tn,cols,keys⟩ (VI.dataL l) = ([],4) by rw [keyR,if_neg (by rw [h0];decide),if_neg (by rintro (h | h);exact h1 (by rw [HDL.out] at h;simpa using h);rw [h2] at h;cases h),if_pos (.inr h4)])
      have hL4 : pg / 16 - 1 < ((packL (underL ⟨tn,cols,keys⟩ (VI.dataL l))).length : Int):=h4
      have hpg1 : 0 ≤ pg:=by have:=HPG.out;omega
      have hpg2 : pg ≤ 8192:=by have:=HPG.out;omega
      clear h0 h2 h3 h4
      go_enter Tryz.func112,Tryz.ntmps112
      go_wp2_with (first
       | (go_at_call 31;go_must (refine (refCheck25_c pg wd A c ⟨tn,cols,keys⟩ _ (HR.out.below (two_below w _ _))).mono ?_;rintro e w1 ⟨rfl,hb1⟩;have HB1:=Ld (hb1.mono (show w.heap.size + 2 ≤ _ by simp));obtain ⟨⟨q0,q1⟩,⟨q2,q3,q4⟩,q5,q6⟩:=HBX.out _ HB1.out;have HW1:=Ld q6;clear hb1 q6))
       | (go_at_call 53;go_must (refine (first_c A c ⟨tn,cols,keys⟩ B d l _ (HR.out.below HW1.out) (HL.out.below HW1.out)).mono ?_;rintro e w2 ⟨rfl,hb2⟩;rw [HFT.out];have HB2:=Ld (HB1.out.trans (hb2.mono (show w.heap.size + 2 ≤ _ by omega)));clear q0 q1 q2 q3 q4 q5;obtain ⟨⟨q0,q1⟩,⟨q2,q3,q4⟩,q5,q6⟩:=HBX.out _ HB2.out;have HW2:=Ld q6;clear hb2 q6))
       | (go_at_call 55;go_must (refine (named25_c A c ⟨tn,cols,keys⟩ B d l _ HR.out.hn (HL.out.below HW2.out) HLL.out).mono ?_;rintro e w3 ⟨A3,c3,rfl,hR3,hb3⟩;have HR3:=Ld hR3;have HB3:=Ld (HB2.out.trans (hb3.mono (show w.heap.size + 2 ≤ _ by omega)));clear q0 q1 q2 q3 q4 q5;obtain ⟨⟨q0,q1⟩,⟨q2,q3,q4⟩,q5,q6⟩:=HBX.out _ HB3.out;have HW3:=Ld q6;clear hb3 hR3 q6))
       | (go_at_call 87;go_must (refine (refPack_c A3 c3 (vText tn :: l) _ HR3.out).mono ?_;rintro e w4 ⟨rfl,hb4⟩;rw [HPE.out];have HB4:=Ld (HB3.out.trans (hb4.mono (show w.heap.size + 2 ≤ _ by omega)));clear q0 q1 q2 q3 q4 q5;obtain ⟨⟨q0,q1⟩,⟨q2,q3,q4⟩,q5,q6⟩:=HBX.out _ HB4.out;have HW4:=Ld q6;clear hb4 q6)))
      obtain ⟨_,_,_,qb⟩:=HBX.out _ HB4.out
      go_ret2
      exact ⟨by rw [HRES.out];rfl,qb⟩
     ·have HRES:=Ld (show keyR pg wd ⟨tn,cols,keys⟩ (VI.dataL l) = (packL (underL ⟨tn,cols,keys⟩ (VI.dataL l)),0) by rw [keyR,if_neg (by rw [h0];decide),if_neg (by rintro (h | h);exact h1 (by rw [HDL.out] at h;simpa using h);rw [h2] at h;cases h),if_neg (by rintro (h | h);exact h h3;exact h4 h)])
      have hL4 : ((packL (underL ⟨tn,cols,keys⟩ (VI.dataL l))).length : Int) ≤ pg / 16 - 1:=by omega
      have hpg1 : 0 ≤ pg:=by have:=HPG.out;omega
      have hpg2 : pg ≤ 8192:=by have:=HPG.out;omega
      clear h0 h2 h3 h4
      go_enter Tryz.func112,Tryz.ntmps112
      go_wp2_with (first
       | (go_at_call 31;go_must (refine (refCheck25_c pg wd A c ⟨tn,cols,keys⟩ _ (HR.out.below (two_below w _ _))).mono ?_;rintro e w1 ⟨rfl,hb1⟩;have HB1:=Ld (hb1.mono (show w.heap.size + 2 ≤ _ by simp));obtain ⟨⟨q0,q1⟩,⟨q2,q3,q4⟩,q5,q6⟩:=HBX.out _ HB1.out;have HW1:=Ld q6;clear hb1 q6))
       | (go_at_call 53;go_must (refine (first_c A c ⟨tn,cols,keys⟩ B d l _ (HR.out.below HW1.out) (HL.out.below HW1.out)).mono ?_;rintro e w2 ⟨rfl,hb2⟩;rw [HFT.out];have HB2:=Ld (HB1.out.trans (hb2.mono (show w.heap.size + 2 ≤ _ by omega)));clear q0 q1 q2 q3 q4 q5;obtain ⟨⟨q0,q1⟩,⟨q2,q3,q4⟩,q5,q6⟩:=HBX.out _ HB2.out;have HW2:=Ld q6;clear hb2 q6))
       | (go_at_call 55;go_must (refine (named25_c A c ⟨tn,cols,keys⟩ B d l _ HR.out.hn (HL.out.below HW2.out) HLL.out).mono ?_;rintro e w3 ⟨A3,c3,rfl,hR3,hb3⟩;have HR3:=Ld hR3;have HB3:=Ld (HB2.out.trans (hb3.mono (show w.heap.size + 2 ≤ _ by omega)));clear q0 q1 q2 q3 q4 q5;obtain ⟨⟨q0,q1⟩,⟨q2,q3,q4⟩,q5,q6⟩:=HBX.out _ HB3.out;have HW3:=Ld q6;clear hb3 hR3 q6))
       | (go_at_call 87;go_must (refine (refPack_c A3 c3 (vText tn :: l) _ HR3.out).mono ?_;rintro e w4 ⟨rfl,hb4⟩;rw [HPE.out];have HB4:=Ld (HB3.out.trans (hb4.mono (show w.heap.size + 2 ≤ _ by omega)));clear q0 q1 q2 q3 q4 q5;obtain ⟨⟨q0,q1⟩,⟨q2,q3,q4⟩,q5,q6⟩:=HBX.out _ HB4.out;have HW4:=Ld q6;clear hb4 q6)))
      obtain ⟨_,_,_,qb⟩:=HBX.out _ HB4.out
      go_ret2
      exact ⟨by rw [HRES.out];rfl,qb⟩
    ·have HPE:=Ld (show packE (VI.dataL (vText tn :: l)) = _ from (congrArg packE (under_data ⟨tn,cols,keys⟩ l)).trans (pe1 h3))
     have HRES:=Ld (show keyR pg wd ⟨tn,cols,keys⟩ (VI.dataL l) = ([],4) by rw [keyR,if_neg (by rw [h0];decide),if_neg (by rintro (h | h);exact h1 (by rw [HDL.out] at h;simpa using h);rw [h2] at h;cases h),if_pos (.inl h3)])
     have hz3:=nz h3
     clear h0 h2 h3
     go_enter Tryz.func112,Tryz.ntmps112
     go_wp2_with (first
      | (go_at_call 31;go_must (refine (refCheck25_c pg wd A c ⟨tn,cols,keys⟩ _ (HR.out.below (two_below w _ _))).mono ?_;rintro e w1 ⟨rfl,hb1⟩;have HB1:=Ld (hb1.mono (show w.heap.size + 2 ≤ _ by simp));obtain ⟨⟨q0,q1⟩,⟨q2,q3,q4⟩,q5,q6⟩:=HBX.out _ HB1.out;have HW1:=Ld q6;clear hb1 q6))
      | (go_at_call 53;go_must (refine (first_c A c ⟨tn,cols,keys⟩ B d l _ (HR.out.below HW1.out) (HL.out.below HW1.out)).mono ?_;rintro e w2 ⟨rfl,hb2⟩;rw [HFT.out];have HB2:=Ld (HB1.out.trans (hb2.mono (show w.heap.size + 2 ≤ _ by omega)));clear q0 q1 q2 q3 q4 q5;obtain ⟨⟨q0,q1⟩,⟨q2,q3,q4⟩,q5,q6⟩:=HBX.out _ HB2.out;have HW2:=Ld q6;clear hb2 q6))
      | (go_at_call 55;go_must (refine (named25_c A c ⟨tn,cols,keys⟩ B d l _ HR.out.hn (HL.out.below HW2.out) HLL.out).mono ?_;rintro e w3 ⟨A3,c3,rfl,hR3,hb3⟩;have HR3:=Ld hR3;have HB3:=Ld (HB2.out.trans (hb3.mono (show w.heap.size + 2 ≤ _ by omega)));clear q0 q1 q2 q3 q4 q5;obtain ⟨⟨q0,q1⟩,⟨q2,q3,q4⟩,q5,q6⟩:=HBX.out _ HB3.out;have HW3:=Ld q6;clear hb3 hR3 q6))
      | (go_at_call 87;go_must (refine (refPack_c A3 c3 (vText tn :: l) _ HR3.out).mono ?_;rintro e w4 ⟨rfl,hb4⟩;rw [HPE.out];have HB4:=Ld (HB3.out.trans (hb4.mono (show w.heap.size + 2 ≤ _ by omega)));clear q0 q1 q2 q3 q4 q5;obtain ⟨⟨q0,q1⟩,⟨q2,q3,q4⟩,q5,q6⟩:=HBX.out _ HB4.out;have HW4:=Ld q6;clear hb4 q6)))
     obtain ⟨_,_,_,qb⟩:=HBX.out _ HB4.out
     go_ret2
     exact ⟨by rw [HRES.out];rfl,qb⟩
   ·have h2' : fitL cols (VI.dataL l) = false:=by simpa using h2
    have HFT:=Ld h2'
    have HRES:=Ld (show keyR pg wd ⟨tn,cols,keys⟩ (VI.dataL l) = ([],251) by rw [keyR,if_neg (by rw [h0];decide),if_pos (.inr h2')])
    clear h0 h2 h2'
    go_enter Tryz.func112,Tryz.ntmps112
    go_wp2_with (first
     | (go_at_call 31;go_must (refine (refCheck25_c pg wd A c ⟨tn,cols,keys⟩ _ (HR.out.below (two_below w _ _))).mono ?_;rintro e w1 ⟨rfl,hb1⟩;have HB1:=Ld (hb1.mono (show w.heap.size + 2 ≤ _ by simp));obtain ⟨⟨q0,q1⟩,⟨q2,q3,q4⟩,q5,q6⟩:=HBX.out _ HB1.out;have HW1:=Ld q6;clear hb1 q6))
     | (go_at_call 53;go_must (refine (first_c A c ⟨tn,cols,keys⟩ B d l _ (HR.out.below HW1.out) (HL.out.below HW1.out)).mono ?_;rintro e w2 ⟨rfl,hb2⟩;rw [HFT.out];have HB2:=Ld (HB1.out.trans (hb2.mono (show w.heap.size + 2 ≤ _ by omega)));clear q0 q1 q2 q3 q4 q5;obtain ⟨⟨q0,q1⟩,⟨q2,q3,q4⟩,q5,q6⟩:=HBX.out _ HB2.out;have HW2:=Ld q6;clear hb2 q6)))
    obtain ⟨_,_,_,qb⟩:=HBX.out _ HB2.out
    go_ret2
    exact ⟨by rw [HRES.out];rfl,qb⟩
 ·have hz0:=nz h0
  have HRES:=Ld (show keyR pg wd ⟨tn,cols,keys⟩ (VI.dataL l) = ([],chkT pg wd ⟨tn,cols,keys⟩) by rw [keyR,if_pos h0])
  clear h0
  go_enter Tryz.func112,Tryz.ntmps112
  go_wp2_with (first
   | (go_at_call 31;go_must (refine (refCheck25_c pg wd A c ⟨tn,cols,keys⟩ _ (HR.out.below (two_below w _ _))).mono ?_;rintro e w1 ⟨rfl,hb1⟩;have HB1:=Ld (hb1.mono (show w.heap.size + 2 ≤ _ by simp));obtain ⟨⟨q0,q1⟩,⟨q2,q3,q4⟩,q5,q6⟩:=HBX.out _ HB1.out;have HW1:=Ld q6;clear hb1 q6)))
  obtain ⟨_,_,_,qb⟩:=HBX.out _ HB1.out
  go_ret2
  exact ⟨by rw [HRES.out];rfl,qb⟩
theorem refValOf_c [Inhabited Thr] (pg wd : Int) (A : Option Addr) (c : Nat) (t : TabD) (B : Option Addr) (d : Nat) (l : List VI) (w : World) (hR : RdT w A c t) (hL : RdI w B d l) :
 Calls Tryz.prog 113 #[vF pg wd,vT t A c,.slice B l.length d] w fun e w' => e = .returned (.tuple #[.string ⟨(valR pg wd t (VI.dataL l)).1.toArray⟩,.int .i64 (valR pg wd t (VI.dataL l)).2]) ∧ Below w.heap.size w w':=by
 have HR:=Ld hR
 have HL:=Ld hL
 have hlen:=hR.hb
 have hlen2:=hL.hb
 have hkk:=hR.hk
 rcases t with ⟨tn,cols,keys⟩
 simp only at hlen hkk
 have HDL:=Ld (show (VI.dataL l).length = l.length by rw [dataL_eq,List.length_map])
 have HBX:=Ld (fun W (h : Below (w.heap.size + 2) ((w.alloc (.cells #[.int .i64 pg,.int .i64 wd] 24)).alloc (.cells #[.string tn,.slice A cols.length c,.int .i64 keys] 27)) W) => boxes_ft h)
 clear hR hL
 by_cases h0 : chkT pg wd ⟨tn,cols,keys⟩ = 0
 ·have HOK:=Ld (chkT_ok h0)
  have HSL:=Ld (shaped_len HOK.out.2)
  have HPG:=Ld (right_pg HOK.out.1)
  have hz0 : ((chkT pg wd ⟨tn,cols,keys⟩ : Int) != 0) = false:=zz h0
  by_cases h1 : ((l.length : Int) != (cols.length : Int)) = true
  ·have HRES:=Ld (show valR pg wd ⟨tn,cols,keys⟩ (VI.dataL l) = ([],251) by rw [valR,if_neg (by rw [h0];decide),if_pos (.inl (by rw [HDL.out];have:=(bne_iff_ne.1 h1);exact fun e => this (by have e2 : l.length = cols.length:=e;omega)))])
   clear h0
   go_enter Tryz.func113,Tryz.ntmps113
   go_wp2_with (first
    | (go_at_call 31;go_must (refine (refCheck25_c pg wd A c ⟨tn,cols,keys⟩ _ (HR.out.below (two_below w _ _))).mono ?_;rintro e w1 ⟨rfl,hb1⟩;have HB1:=Ld (hb1.mono (show w.heap.size + 2 ≤ _ by simp));obtain ⟨⟨q0,q1⟩,⟨q2,q3,q4⟩,q5,q6⟩:=HBX.out _ HB1.out;have HW1:=Ld q6;clear hb1 q6)))
   obtain ⟨_,_,_,qb⟩:=HBX.out _ HB1.out
   go_ret2
   exact ⟨by rw [HRES.out];rfl,qb⟩
  ·by_cases h2 : fitL cols (VI.dataL l) = true
   ·have HFT:=Ld h2
    have HLE:=Ld (show l.length = cols.length by have h1' : (l.length : Int) = (cols.length : Int):=(by simpa using h1);omega)
    have HLL:=Ld (show l.length ≤ 1000 by have:=HSL.out;have:=HLE.out;simp only at *;omega)
    have hkl : keys.toNat ≤ l.length:=by have:=HSL.out;have:=HLE.out;simp only at *;omega
    have hk0 : 0 ≤ keys:=by have:=HSL.out;simp only at this;omega
    obtain ⟨A3,hsl,hsr⟩:=slice_from (P:=Tryz.prog) 28 6 Tryz.underlying28 (fun W => by kernel_rfl) B l.length d keys.toNat keys (by omega) hkl HL.out.hc
    have hdl : (l.drop keys.toNat).length = l.length - keys.toNat:=List.length_drop
    rw [← hdl] at hsl
    have HDR:=Ld (fun W (h : Below w.heap.size w W) => drop_rd (HL.out.below h) hkl (hsr W _ (HL.out.below h).rd))
    obtain ⟨l2,hl2⟩ : ∃ l2,l.drop keys.toNat = l2:=⟨_,rfl⟩
    obtain ⟨d2,hd2⟩ : ∃ d2,d - keys.toNat = d2:=⟨_,rfl⟩
    have HD2:=Ld (show VI.dataL l2 = (VI.dataL l).drop keys.toNat by rw [← hl2];exact dataL_drop _ _)
    rw [hl2,hd2] at hsl HDR
    clear hdl hsr hl2 hd2
    by_cases h3 : chkL ((VI.dataL l).drop keys.toNat) = 0
    ·have HPE:=Ld (show packE (VI.dataL l2) = _ from (congrArg packE (HD2.out)).trans (pe0 h3))
     have HSZ:=Ld (show (⟨(packL ((VI.dataL l).drop keys.toNat)).toArray⟩ : ByteArray).size = (packL ((VI.dataL l).drop keys.toNat)).length by simp [ByteArray.size])
     by_cases h4 : pg / 8 < ((packL ((VI.dataL l).drop keys.toNat)).length : Int)
     ·have HRES:=Ld (show valR pg wd ⟨tn,cols,keys⟩ (VI.dataL l) = ([],4) by rw [valR,if_neg (by rw [h0];decide),if_neg (by rintro (h | h);exact h1 (by rw [HDL.out] at h;rw [bne_iff_ne];intro e;exact h (show l.length = cols.length by omega));rw [h2] at h;cases h),if_pos (.inr h4)])
      have hL4 : pg / 8 < ((packL ((VI.dataL l).drop keys.toNat)).length : Int):=h4
      have hpg1 : 0 ≤ pg:=by have:=HPG.out;omega
      have hpg2 : pg ≤ 8192:=by have:=HPG.out;omega
      clear h0 h2 h3 h4
      go_enter Tryz.func113,Tryz.ntmps113
      go_wp2_with (first
       | (go_at_call 31;go_must (refine (refCheck25_c pg wd A c ⟨tn,cols,keys⟩ _ (HR.out.below (two_below w _ _))).mono ?_;rintro e w1 ⟨rfl,hb1⟩;have HB1:=Ld (hb1.mono (show w.heap.size + 2 ≤ _ by simp));obtain ⟨⟨q0,q1⟩,⟨q2,q3,q4⟩,q5,q6⟩:=HBX.out _ HB1.out;have HW1:=Ld q6;clear hb1 q6))
       | (go_at_call 53;go_must (refine (first_c A c ⟨tn,cols,keys⟩ B d l _ (HR.out.below HW1.out) (HL.out.below HW1.out)).mono ?_;rintro e w2 ⟨rfl,hb2⟩;rw [HFT.out];have HB2:=Ld (HB1.out.trans (hb2.mono (show w.heap.size + 2 ≤ _ by omega)));clear q0 q1 q2 q3 q4 q5;obtain ⟨⟨q0,q1⟩,⟨q2,q3,q4⟩,q5,q6⟩:=HBX.out _ HB2.out;have HW2:=Ld q6;clear hb2 q6))
       | (go_at_call 87;go_must (refine (refPack_c A3 d2 l2 _ (HDR.out _ HW2.out)).mono ?_;rintro e w4 ⟨rfl,hb4⟩;rw [HPE.out];have HB4:=Ld (HB2.out.trans (hb4.mono (show w.heap.size + 2 ≤ _ by omega)));clear q0 q1 q2 q3 q4 q5;obtain ⟨⟨q0,q1⟩,⟨q2,q3,q4⟩,q5,q6⟩:=HBX.out _ HB4.out;have HW4:=Ld q6;clear hb4 q6)))
      obtain ⟨_,_,_,qb⟩:=HBX.out _ HB4.out
      go_ret2
      exact ⟨by rw [HRES.out];rfl,qb⟩
     ·have HRES:=Ld (show valR pg wd ⟨tn,cols,keys⟩ (VI.dataL l) = (packL ((VI.dataL l).drop keys.toNat),0) by rw [valR,if_neg (by rw [h0];decide),if_neg (by rintro (h | h);exact h1 (by rw [HDL.out] at h;rw [bne_iff_ne];intro e;exact h (show l.length = cols.length by omega));rw [h2] at h;cases h),if_neg (by rintro (h | h);exact h h3;exact h4 h)])
      have hL4 : ((packL ((VI.dataL l).drop keys.toNat)).length : Int) ≤ pg / 8:=by omega
      have hpg1 : 0 ≤ pg:=by have:=HPG.out;omega
      have hpg2 : pg ≤ 8192:=by have:=HPG.out;omega
      clear h0 h2 h3 h4
      go_enter Tryz.func113,Tryz.ntmps113
      go_wp2_with (first
       | (go_at_call 31;go_must (refine (refCheck25_c pg wd A c ⟨tn,cols,keys⟩ _ (HR.out.below (two_below w _ _))).mono ?_;rintro e w1 ⟨rfl,hb1⟩;have HB1:=Ld (hb1.mono (show w.heap.size + 2 ≤ _ by simp));obtain ⟨⟨q0,q1⟩,⟨q2,q3,q4⟩,q5,q6⟩:=HBX.out _ HB1.out;have HW1:=Ld q6;clear hb1 q6))
       | (go_at_call 53;go_must (refine (first_c A c ⟨tn,cols,keys⟩ B d l _ (HR.out.below HW1.out) (HL.out.below HW1.out)).mono ?_;rintro e w2 ⟨rfl,hb2⟩;rw [HFT.out];have HB2:=Ld (HB1.out.trans (hb2.mono (show w.heap.size + 2 ≤ _ by omega)));clear q0 q1 q2 q3 q4 q5;obtain ⟨⟨q0,q1⟩,⟨q2,q3,q4⟩,q5,q6⟩:=HBX.out _ HB2.out;have HW2:=Ld q6;clear hb2 q6))
       | (go_at_call 87;go_must (refine (refPack_c A3 d2 l2 _ (HDR.out _ HW2.out)).mono ?_;rintro e w4 ⟨rfl,hb4⟩;rw [HPE.out];have HB4:=Ld (HB2.out.trans (hb4.mono (show w.heap.size + 2 ≤ _ by omega)));clear q0 q1 q2 q3 q4 q5;obtain ⟨⟨q0,q1⟩,⟨q2,q3,q4⟩,q5,q6⟩:=HBX.out _ HB4.out;have HW4:=Ld q6;clear hb4 q6)))
      obtain ⟨_,_,_,qb⟩:=HBX.out _ HB4.out
      go_ret2
      exact ⟨by rw [HRES.out];rfl,qb⟩
    ·have HPE:=Ld (show packE (VI.dataL l2) = _ from (congrArg packE (HD2.out)).trans (pe1 h3))
     have HRES:=Ld (show valR pg wd ⟨tn,cols,keys⟩ (VI.dataL l) = ([],4) by rw [valR,if_neg (by rw [h0];decide),if_neg (by rintro (h | h);exact h1 (by rw [HDL.out] at h;rw [bne_iff_ne];intro e;exact h (show l.length = cols.length by omega));rw [h2] at h;cases h),if_pos (.inl h3)])
     have hz3:=nz h3
     clear h0 h2 h3
     go_enter Tryz.func113,Tryz.ntmps113
     go_wp2_with (first
      | (go_at_call 31;go_must (refine (refCheck25_c pg wd A c ⟨tn,cols,keys⟩ _ (HR.out.below (two_below w _ _))).mono ?_;rintro e w1 ⟨rfl,hb1⟩;have HB1:=Ld (hb1.mono (show w.heap.size + 2 ≤ _ by simp));obtain ⟨⟨q0,q1⟩,⟨q2,q3,q4⟩,q5,q6⟩:=HBX.out _ HB1.out;have HW1:=Ld q6;clear hb1 q6))
      | (go_at_call 53;go_must (refine (first_c A c ⟨tn,cols,keys⟩ B d l _ (HR.out.below HW1.out) (HL.out.below HW1.out)).mono ?_;rintro e w2 ⟨rfl,hb2⟩;rw [HFT.out];have HB2:=Ld (HB1.out.trans (hb2.mono (show w.heap.size + 2 ≤ _ by omega)));clear q0 q1 q2 q3 q4 q5;obtain ⟨⟨q0,q1⟩,⟨q2,q3,q4⟩,q5,q6⟩:=HBX.out _ HB2.out;have HW2:=Ld q6;clear hb2 q6))
      | (go_at_call 87;go_must (refine (refPack_c A3 d2 l2 _ (HDR.out _ HW2.out)).mono ?_;rintro e w4 ⟨rfl,hb4⟩;rw [HPE.out];have HB4:=Ld (HB2.out.trans (hb4.mono (show w.heap.size + 2 ≤ _ by omega)));clear q0 q1 q2 q3 q4 q5;obtain ⟨⟨q0,q1⟩,⟨q2,q3,q4⟩,q5,q6⟩:=HBX.out _ HB4.out;have HW4:=Ld q6;clear hb4 q6)))
     obtain ⟨_,_,_,qb⟩:=HBX.out _ HB4.out
     go_ret2
     exact ⟨by rw [HRES.out];rfl,qb⟩
   ·have h2' : fitL cols (VI.dataL l) = false:=by simpa using h2
    have HFT:=Ld h2'
    have HRES:=Ld (show valR pg wd ⟨tn,cols,keys⟩ (VI.dataL l) = ([],251) by rw [valR,if_neg (by rw [h0];decide),if_pos (.inr h2')])
    clear h0 h2 h2'
    go_enter Tryz.func113,Tryz.ntmps113
    go_wp2_with (first
     | (go_at_call 31;go_must (refine (refCheck25_c pg wd A c ⟨tn,cols,keys⟩ _ (HR.out.below (two_below w _ _))).mono ?_;rintro e w1 ⟨rfl,hb1⟩;have HB1:=Ld (hb1.mono (show w.heap.size + 2 ≤ _ by simp));obtain ⟨⟨q0,q1⟩,⟨q2,q3,q4⟩,q5,q6⟩:=HBX.out _ HB1.out;have HW1:=Ld q6;clear hb1 q6))
     | (go_at_call 53;go_must (refine (first_c A c ⟨tn,cols,keys⟩ B d l _ (HR.out.below HW1.out) (HL.out.below HW1.out)).mono ?_;rintro e w2 ⟨rfl,hb2⟩;rw [HFT.out];have HB2:=Ld (HB1.out.trans (hb2.mono (show w.heap.size + 2 ≤ _ by omega)));clear q0 q1 q2 q3 q4 q5;obtain ⟨⟨q0,q1⟩,⟨q2,q3,q4⟩,q5,q6⟩:=HBX.out _ HB2.out;have HW2:=Ld q6;clear hb2 q6)))
    obtain ⟨_,_,_,qb⟩:=HBX.out _ HB2.out
    go_ret2
    exact ⟨by rw [HRES.out];rfl,qb⟩
 ·have hz0:=nz h0
  have HRES:=Ld (show valR pg wd ⟨tn,cols,keys⟩ (VI.dataL l) = ([],chkT pg wd ⟨tn,cols,keys⟩) by rw [valR,if_pos h0])
  clear h0
  go_enter Tryz.func113,Tryz.ntmps113
  go_wp2_with (first
   | (go_at_call 31;go_must (refine (refCheck25_c pg wd A c ⟨tn,cols,keys⟩ _ (HR.out.below (two_below w _ _))).mono ?_;rintro e w1 ⟨rfl,hb1⟩;have HB1:=Ld (hb1.mono (show w.heap.size + 2 ≤ _ by simp));obtain ⟨⟨q0,q1⟩,⟨q2,q3,q4⟩,q5,q6⟩:=HBX.out _ HB1.out;have HW1:=Ld q6;clear hb1 q6)))
  obtain ⟨_,_,_,qb⟩:=HBX.out _ HB1.out
  go_ret2
  exact ⟨by rw [HRES.out];rfl,qb⟩
end
end Go.Proofs.YtonjgedhmmnolaaGreatDoor
