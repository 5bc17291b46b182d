import Derived.Test.YtonjgedhmmnolaaGreatDoorZ7
import Derived.Laws.Cover3
namespace Go.Proofs.YtonjgedhmmnolaaGreatDoor
section
open Go.RowKit
set_option maxHeartbeats 1000000
set_option maxRecDepth 100000
def keyR (pg wd : Int) (t : TabD) (l : List ItemD) : List UInt8 × Nat :=
 if chkT pg wd t ≠ 0 then ([],chkT pg wd t) else if (l.length : Int) ≠ t.keys ∨ fitL t.cols l = false then ([],251)
 else if chkL (underL t l) ≠ 0 ∨ pg / 16 - 1 < (packL (underL t l)).length then ([],4) else (packL (underL t l),0)
def valR (pg wd : Int) (t : TabD) (l : List ItemD) : List UInt8 × Nat :=
 if chkT pg wd t ≠ 0 then ([],chkT pg wd t) else if l.length ≠ t.cols.length ∨ fitL t.cols l = false then ([],251)
 else if chkL (l.drop t.keys.toNat) ≠ 0 ∨ pg / 8 < (packL (l.drop t.keys.toNat)).length then ([],4) else (packL (l.drop t.keys.toNat),0)
def bndR (pg wd : Int) (t : TabD) (l : List ItemD) : List UInt8 × List UInt8 × Nat :=
 if chkT pg wd t ≠ 0 then ([],[],chkT pg wd t) else if t.keys < (l.length : Int) ∨ fitL t.cols l = false then ([],[],251)
 else if chkL (underL t l) ≠ 0 then ([],[],4) else (packL (underL t l),hiB (packL (underL t l)),0)
theorem chkT_ok {pg wd : Int} {t : TabD} (h : chkT pg wd t = 0) : right pg wd = true ∧ shapedB t = true:=by
 unfold chkT at h
 by_cases h1 : right pg wd = false
 ·rw [if_pos h1] at h;cases h
 ·by_cases h2 : shapedB t = false
  ·rw [if_neg h1,if_pos h2] at h;cases h
  ·exact ⟨by simpa using h1,by simpa using h2⟩
theorem nz {n : Nat} (h : n ≠ 0) : ((n : Int) != 0) = true:=by rw [bne_iff_ne];omega
theorem zz {n : Nat} (h : n = 0) : ((n : Int) != 0) = false:=by subst h;rfl
theorem pe0 {l : List ItemD} (h : chkL l = 0) : packE l = .tuple #[.string ⟨(packL l).toArray⟩,.int .i64 0]:=by rw [packE,if_pos h]
theorem pe1 {l : List ItemD} (h : chkL l ≠ 0) : packE l = .tuple #[.string ⟨#[]⟩,.int .i64 (chkL l)]:=by rw [packE,if_neg h]
theorem ue0 {l : List ItemD} (h : chkL l = 0) : underE l = .tuple #[.string ⟨(packL l).toArray⟩,.string ⟨(hiB (packL l)).toArray⟩,.int .i64 0]:=by rw [underE,if_pos h]
theorem ue1 {l : List ItemD} (h : chkL l ≠ 0) : underE l = .tuple #[.string ⟨#[]⟩,.string ⟨#[]⟩,.int .i64 (chkL l)]:=by rw [underE,if_neg h]
theorem dataL_drop (l : List VI) (k : Nat) : VI.dataL (l.drop k) = (VI.dataL l).drop k:=by rw [dataL_eq,dataL_eq,List.map_drop]
theorem icells_drop (l : List VI) (k : Nat) : icells (l.drop k) = (icells l).drop (k * 6):=by
 induction l generalizing k with
 | nil => simp [icells]
 | cons x l ih =>
   cases k with
   | zero => simp
   | succ k =>
     rw [List.drop_succ_cons,ih,Nat.succ_mul]
     simp only [icells,List.flatMap_cons]
     rw [Nat.add_comm,← List.drop_drop]
     rfl
theorem drop_rd [Inhabited Thr] {W : World} {B A' : Option Addr} {d k : Nat} {l : List VI} (h : RdI W B d l) (hk : k ≤ l.length) (hr : Rd W 6 A' (l.length - k) ((icells l).drop (k * 6))) : RdI W A' (d - k) (l.drop k):=by
 have hl : (l.drop k).length = l.length - k:=List.length_drop
 exact ⟨by rw [hl,icells_drop];exact hr,by have:=h.hc;omega,by have:=h.hb;omega,fun y hy => h.hx y (List.mem_of_mem_drop hy)⟩
theorem KeyOf_c [Inhabited Thr] (pg wd : Int) (A : Option Addr) (c : Nat) (t : TabD) (B : Option Addr) (d : Nat) (l : List VI) (w : World) (hR : RdT w A c t) (hL : RdI w B d l) (hcell : ∃ m,w.cell? ⟨1,0,none⟩ = some (.int .i64 m)) :
 Calls Tryz.prog 22 #[vF pg wd,vT t A c,.slice B l.length d] w fun e w' => e = .returned (.tuple #[.string ⟨(keyR pg wd t (VI.dataL l)).1.toArray⟩,.int .i64 (keyR pg wd t (VI.dataL l)).2]) ∧ Below w.heap.size w w':=by
 have HR:=Ld hR
 have HL:=Ld hL
 have HC:=Ld hcell
 have hlen:=hR.hb
 have hlen2:=hL.hb
 have hkk:=hR.hk
 rcases t with ⟨tn,cols,keys⟩
 simp only at hlen hkk
 have HDL:=Ld (show (VI.dataL l).length = l.length by rw [dataL_eq,List.length_map])
 have HBX:=Ld (fun W (h : Below (w.heap.size + 2) ((w.alloc (.cells #[.int .i64 pg,.int .i64 wd] 24)).alloc (.cells #[.string tn,.slice A cols.length c,.int .i64 keys] 27)) W) => boxes_ft h)
 clear hR hL hcell
 by_cases h0 : chkT pg wd ⟨tn,cols,keys⟩ = 0
 ·have HOK:=Ld (chkT_ok h0)
  have HSL:=Ld (shaped_len HOK.out.2)
  have HPG:=Ld (right_pg HOK.out.1)
  have hz0 : ((chkT pg wd ⟨tn,cols,keys⟩ : Int) != 0) = false:=zz h0
  by_cases h1 : ((l.length : Int) != keys) = true
  ·have HRES:=Ld (show keyR pg wd ⟨tn,cols,keys⟩ (VI.dataL l) = ([],251) by rw [keyR,if_neg (by rw [h0];decide),if_pos (.inl (by rw [HDL.out];simpa using h1))])
   clear h0
   go_enter Tryz.func22,Tryz.ntmps22
   go_wp2_with (first
    | (go_at_call 27;go_must (refine (Check_rows_c pg wd A c ⟨tn,cols,keys⟩ _ (HR.out.below (two_below w _ _)) (cell_keep HC.out (Nat.le_refl _) (two_below w _ _))).mono ?_;rintro e w1 ⟨rfl,hb1⟩;have HB1:=Ld (hb1.mono (show w.heap.size + 2 ≤ _ by simp));obtain ⟨⟨q0,q1⟩,⟨q2,q3,q4⟩,q5,q6⟩:=HBX.out _ HB1.out;have HW1:=Ld q6;clear hb1 q6)))
   obtain ⟨_,_,_,qb⟩:=HBX.out _ HB1.out
   go_ret2
   exact ⟨by rw [HRES.out];rfl,qb⟩
  ·by_cases h2 : fitL cols (VI.dataL l) = true
   ·have HFT:=Ld h2
    have HLE:=Ld (show (l.length : Int) = keys by simpa using h1)
    have HLL:=Ld (show l.length ≤ 1000 by have:=HSL.out;have:=HLE.out;simp only at *;omega)
    by_cases h3 : chkL (underL ⟨tn,cols,keys⟩ (VI.dataL l)) = 0
    ·have HPE:=Ld (show packE (VI.dataL (vText tn :: l)) = _ from (congrArg packE (under_data ⟨tn,cols,keys⟩ l)).trans (pe0 h3))
     have HSZ:=Ld (show (⟨(packL (underL ⟨tn,cols,keys⟩ (VI.dataL l))).toArray⟩ : ByteArray).size = (packL (underL ⟨tn,cols,keys⟩ (VI.dataL l))).length by simp [ByteArray.size])
     by_cases h4 : pg / 16 - 1 < ((packL (underL ⟨tn,cols,keys⟩ (VI.dataL l))).length : Int)
     ·have HRES:=Ld (show keyR pg wd ⟨tn,cols,keys⟩ (VI.dataL l) = ([],4) by rw [keyR,if_neg (by rw [h0];decide),if_neg (by rintro (h | h);exact h1 (by rw [HDL.out] at h;simpa using h);rw [h2] at h;cases h),if_pos (.inr h4)])
      have hL4 : pg / 16 - 1 < ((packL (underL ⟨tn,cols,keys⟩ (VI.dataL l))).length : Int):=h4
      have hpg1 : 0 ≤ pg:=by have:=HPG.out;omega
      have hpg2 : pg ≤ 8192:=by have:=HPG.out;omega
      clear h0 h2 h3 h4
      go_enter Tryz.func22,Tryz.ntmps22
      go_wp2_with (first
       | (go_at_call 27;go_must (refine (Check_rows_c pg wd A c ⟨tn,cols,keys⟩ _ (HR.out.below (two_below w _ _)) (cell_keep HC.out (Nat.le_refl _) (two_below w _ _))).mono ?_;rintro e w1 ⟨rfl,hb1⟩;have HB1:=Ld (hb1.mono (show w.heap.size + 2 ≤ _ by simp));obtain ⟨⟨q0,q1⟩,⟨q2,q3,q4⟩,q5,q6⟩:=HBX.out _ HB1.out;have HW1:=Ld q6;clear hb1 q6))
       | (go_at_call 47;go_must (refine (fit_c A c ⟨tn,cols,keys⟩ B d l _ (HR.out.below HW1.out) (HL.out.below HW1.out)).mono ?_;rintro e w2 ⟨rfl,hb2⟩;rw [HFT.out];have HB2:=Ld (HB1.out.trans (hb2.mono (show w.heap.size + 2 ≤ _ by omega)));clear q0 q1 q2 q3 q4 q5;obtain ⟨⟨q0,q1⟩,⟨q2,q3,q4⟩,q5,q6⟩:=HBX.out _ HB2.out;have HW2:=Ld q6;clear hb2 q6))
       | (go_at_call 49;go_must (refine (under_c A c ⟨tn,cols,keys⟩ B d l _ HR.out.hn (HL.out.below HW2.out) HLL.out).mono ?_;rintro e w3 ⟨A3,c3,rfl,hR3,hb3⟩;have HR3:=Ld hR3;have HB3:=Ld (HB2.out.trans (hb3.mono (show w.heap.size + 2 ≤ _ by omega)));clear q0 q1 q2 q3 q4 q5;obtain ⟨⟨q0,q1⟩,⟨q2,q3,q4⟩,q5,q6⟩:=HBX.out _ HB3.out;have HW3:=Ld q6;clear hb3 hR3 q6))
       | (go_at_call 48;go_must (refine (Pack_c A3 c3 (vText tn :: l) _ HR3.out (cell_keep HC.out (Nat.le_refl _) HW3.out)).mono ?_;rintro e w4 ⟨rfl,hb4⟩;rw [HPE.out];have HB4:=Ld (HB3.out.trans (hb4.mono (show w.heap.size + 2 ≤ _ by omega)));clear q0 q1 q2 q3 q4 q5;obtain ⟨⟨q0,q1⟩,⟨q2,q3,q4⟩,q5,q6⟩:=HBX.out _ HB4.out;have HW4:=Ld q6;clear hb4 q6))
       | (go_at_call 50;go_must (refine (maxKey_c pg wd _ (by have:=HPG.out;omega) (by have:=HPG.out;omega)).mono ?_;rintro e w5 ⟨rfl,hb5⟩;have HB5:=Ld (HB4.out.trans (hb5.mono (show w.heap.size + 2 ≤ _ by omega)));clear q0 q1 q2 q3 q4 q5;obtain ⟨⟨q0,q1⟩,⟨q2,q3,q4⟩,q5,q6⟩:=HBX.out _ HB5.out;have HW5:=Ld q6;clear hb5 q6)))
      obtain ⟨_,_,_,qb⟩:=HBX.out _ HB5.out
      go_ret2
      exact ⟨by rw [HRES.out];rfl,qb⟩
     ·have HRES:=Ld (show keyR pg wd ⟨tn,cols,keys⟩ (VI.dataL l) = (packL (underL ⟨tn,cols,keys⟩ (VI.dataL l)),0) by rw [keyR,if_neg (by rw [h0];decide),if_neg (by rintro (h | h);exact h1 (by rw [HDL.out] at h;simpa using h);rw [h2] at h;cases h),if_neg (by rintro (h | h);exact h h3;exact h4 h)])
      have hL4 : ((packL (underL ⟨tn,cols,keys⟩ (VI.dataL l))).length : Int) ≤ pg / 16 - 1:=by omega
      have hpg1 : 0 ≤ pg:=by have:=HPG.out;omega
      have hpg2 : pg ≤ 8192:=by have:=HPG.out;omega
      clear h0 h2 h3 h4
      go_enter Tryz.func22,Tryz.ntmps22
      go_wp2_with (first
       | (go_at_call 27;go_must (refine (Check_rows_c pg wd A c ⟨tn,cols,keys⟩ _ (HR.out.below (two_below w _ _)) (cell_keep HC.out (Nat.le_refl _) (two_below w _ _))).mono ?_;rintro e w1 ⟨rfl,hb1⟩;have HB1:=Ld (hb1.mono (show w.heap.size + 2 ≤ _ by simp));obtain ⟨⟨q0,q1⟩,⟨q2,q3,q4⟩,q5,q6⟩:=HBX.out _ HB1.out;have HW1:=Ld q6;clear hb1 q6))
       | (go_at_call 47;go_must (refine (fit_c A c ⟨tn,cols,keys⟩ B d l _ (HR.out.below HW1.out) (HL.out.below HW1.out)).mono ?_;rintro e w2 ⟨rfl,hb2⟩;rw [HFT.out];have HB2:=Ld (HB1.out.trans (hb2.mono (show w.heap.size + 2 ≤ _ by omega)));clear q0 q1 q2 q3 q4 q5;obtain ⟨⟨q0,q1⟩,⟨q2,q3,q4⟩,q5,q6⟩:=HBX.out _ HB2.out;have HW2:=Ld q6;clear hb2 q6))
       | (go_at_call 49;go_must (refine (under_c A c ⟨tn,cols,keys⟩ B d l _ HR.out.hn (HL.out.below HW2.out) HLL.out).mono ?_;rintro e w3 ⟨A3,c3,rfl,hR3,hb3⟩;have HR3:=Ld hR3;have HB3:=Ld (HB2.out.trans (hb3.mono (show w.heap.size + 2 ≤ _ by omega)));clear q0 q1 q2 q3 q4 q5;obtain ⟨⟨q0,q1⟩,⟨q2,q3,q4⟩,q5,q6⟩:=HBX.out _ HB3.out;have HW3:=Ld q6;clear hb3 hR3 q6))
       | (go_at_call 48;go_must (refine (Pack_c A3 c3 (vText tn :: l) _ HR3.out (cell_keep HC.out (Nat.le_refl _) HW3.out)).mono ?_;rintro e w4 ⟨rfl,hb4⟩;rw [HPE.out];have HB4:=Ld (HB3.out.trans (hb4.mono (show w.heap.size + 2 ≤ _ by omega)));clear q0 q1 q2 q3 q4 q5;obtain ⟨⟨q0,q1⟩,⟨q2,q3,q4⟩,q5,q6⟩:=HBX.out _ HB4.out;have HW4:=Ld q6;clear hb4 q6))
       | (go_at_call 50;go_must (refine (maxKey_c pg wd _ (by have:=HPG.out;omega) (by have:=HPG.out;omega)).mono ?_;rintro e w5 ⟨rfl,hb5⟩;have HB5:=Ld (HB4.out.trans (hb5.mono (show w.heap.size + 2 ≤ _ by omega)));clear q0 q1 q2 q3 q4 q5;obtain ⟨⟨q0,q1⟩,⟨q2,q3,q4⟩,q5,q6⟩:=HBX.out _ HB5.out;have HW5:=Ld q6;clear hb5 q6)))
      obtain ⟨_,_,_,qb⟩:=HBX.out _ HB5.out
      go_ret2
      exact ⟨by rw [HRES.out];rfl,qb⟩
    ·have HPE:=Ld (show packE (VI.dataL (vText tn :: l)) = _ from (congrArg packE (under_data ⟨tn,cols,keys⟩ l)).trans (pe1 h3))
     have HRES:=Ld (show keyR pg wd ⟨tn,cols,keys⟩ (VI.dataL l) = ([],4) by rw [keyR,if_neg (by rw [h0];decide),if_neg (by rintro (h | h);exact h1 (by rw [HDL.out] at h;simpa using h);rw [h2] at h;cases h),if_pos (.inl h3)])
     have hz3:=nz h3
     clear h0 h2 h3
     go_enter Tryz.func22,Tryz.ntmps22
     go_wp2_with (first
      | (go_at_call 27;go_must (refine (Check_rows_c pg wd A c ⟨tn,cols,keys⟩ _ (HR.out.below (two_below w _ _)) (cell_keep HC.out (Nat.le_refl _) (two_below w _ _))).mono ?_;rintro e w1 ⟨rfl,hb1⟩;have HB1:=Ld (hb1.mono (show w.heap.size + 2 ≤ _ by simp));obtain ⟨⟨q0,q1⟩,⟨q2,q3,q4⟩,q5,q6⟩:=HBX.out _ HB1.out;have HW1:=Ld q6;clear hb1 q6))
      | (go_at_call 47;go_must (refine (fit_c A c ⟨tn,cols,keys⟩ B d l _ (HR.out.below HW1.out) (HL.out.below HW1.out)).mono ?_;rintro e w2 ⟨rfl,hb2⟩;rw [HFT.out];have HB2:=Ld (HB1.out.trans (hb2.mono (show w.heap.size + 2 ≤ _ by omega)));clear q0 q1 q2 q3 q4 q5;obtain ⟨⟨q0,q1⟩,⟨q2,q3,q4⟩,q5,q6⟩:=HBX.out _ HB2.out;have HW2:=Ld q6;clear hb2 q6))
      | (go_at_call 49;go_must (refine (under_c A c ⟨tn,cols,keys⟩ B d l _ HR.out.hn (HL.out.below HW2.out) HLL.out).mono ?_;rintro e w3 ⟨A3,c3,rfl,hR3,hb3⟩;have HR3:=Ld hR3;have HB3:=Ld (HB2.out.trans (hb3.mono (show w.heap.size + 2 ≤ _ by omega)));clear q0 q1 q2 q3 q4 q5;obtain ⟨⟨q0,q1⟩,⟨q2,q3,q4⟩,q5,q6⟩:=HBX.out _ HB3.out;have HW3:=Ld q6;clear hb3 hR3 q6))
      | (go_at_call 48;go_must (refine (Pack_c A3 c3 (vText tn :: l) _ HR3.out (cell_keep HC.out (Nat.le_refl _) HW3.out)).mono ?_;rintro e w4 ⟨rfl,hb4⟩;rw [HPE.out];have HB4:=Ld (HB3.out.trans (hb4.mono (show w.heap.size + 2 ≤ _ by omega)));clear q0 q1 q2 q3 q4 q5;obtain ⟨⟨q0,q1⟩,⟨q2,q3,q4⟩,q5,q6⟩:=HBX.out _ HB4.out;have HW4:=Ld q6;clear hb4 q6)))
     obtain ⟨_,_,_,qb⟩:=HBX.out _ HB4.out
     go_ret2
     exact ⟨by rw [HRES.out];rfl,qb⟩
   ·have h2' : fitL cols (VI.dataL l) = false:=by simpa using h2
    have HFT:=Ld h2'
    have HRES:=Ld (show keyR pg wd ⟨tn,cols,keys⟩ (VI.dataL l) = ([],251) by rw [keyR,if_neg (by rw [h0];decide),if_pos (.inr h2')])
    clear h0 h2 h2'
    go_enter Tryz.func22,Tryz.ntmps22
    go_wp2_with (first
     | (go_at_call 27;go_must (refine (Check_rows_c pg wd A c ⟨tn,cols,keys⟩ _ (HR.out.below (two_below w _ _)) (cell_keep HC.out (Nat.le_refl _) (two_below w _ _))).mono ?_;rintro e w1 ⟨rfl,hb1⟩;have HB1:=Ld (hb1.mono (show w.heap.size + 2 ≤ _ by simp));obtain ⟨⟨q0,q1⟩,⟨q2,q3,q4⟩,q5,q6⟩:=HBX.out _ HB1.out;have HW1:=Ld q6;clear hb1 q6))
     | (go_at_call 47;go_must (refine (fit_c A c ⟨tn,cols,keys⟩ B d l _ (HR.out.below HW1.out) (HL.out.below HW1.out)).mono ?_;rintro e w2 ⟨rfl,hb2⟩;rw [HFT.out];have HB2:=Ld (HB1.out.trans (hb2.mono (show w.heap.size + 2 ≤ _ by omega)));clear q0 q1 q2 q3 q4 q5;obtain ⟨⟨q0,q1⟩,⟨q2,q3,q4⟩,q5,q6⟩:=HBX.out _ HB2.out;have HW2:=Ld q6;clear hb2 q6)))
    obtain ⟨_,_,_,qb⟩:=HBX.out _ HB2.out
    go_ret2
    exact ⟨by rw [HRES.out];rfl,qb⟩
 ·have hz0:=nz h0
  have HRES:=Ld (show keyR pg wd ⟨tn,cols,keys⟩ (VI.dataL l) = ([],chkT pg wd ⟨tn,cols,keys⟩) by rw [keyR,if_pos h0])
  clear h0
  go_enter Tryz.func22,Tryz.ntmps22
  go_wp2_with (first
   | (go_at_call 27;go_must (refine (Check_rows_c pg wd A c ⟨tn,cols,keys⟩ _ (HR.out.below (two_below w _ _)) (cell_keep HC.out (Nat.le_refl _) (two_below w _ _))).mono ?_;rintro e w1 ⟨rfl,hb1⟩;have HB1:=Ld (hb1.mono (show w.heap.size + 2 ≤ _ by simp));obtain ⟨⟨q0,q1⟩,⟨q2,q3,q4⟩,q5,q6⟩:=HBX.out _ HB1.out;have HW1:=Ld q6;clear hb1 q6)))
  obtain ⟨_,_,_,qb⟩:=HBX.out _ HB1.out
  go_ret2
  exact ⟨by rw [HRES.out];rfl,qb⟩
theorem ValOf_c [Inhabited Thr] (pg wd : Int) (A : Option Addr) (c : Nat) (t : TabD) (B : Option Addr) (d : Nat) (l : List VI) (w : World) (hR : RdT w A c t) (hL : RdI w B d l) (hcell : ∃ m,w.cell? ⟨1,0,none⟩ = some (.int .i64 m)) :
 Calls Tryz.prog 23 #[vF pg wd,vT t A c,.slice B l.length d] w fun e w' => e = .returned (.tuple #[.string ⟨(valR pg wd t (VI.dataL l)).1.toArray⟩,.int .i64 (valR pg wd t (VI.dataL l)).2]) ∧ Below w.heap.size w w':=by
 have HR:=Ld hR
 have HL:=Ld hL
 have HC:=Ld hcell
 have hlen:=hR.hb
 have hlen2:=hL.hb
 have hkk:=hR.hk
 rcases t with ⟨tn,cols,keys⟩
 simp only at hlen hkk
 have HDL:=Ld (show (VI.dataL l).length = l.length by rw [dataL_eq,List.length_map])
 have HBX:=Ld (fun W (h : Below (w.heap.size + 2) ((w.alloc (.cells #[.int .i64 pg,.int .i64 wd] 24)).alloc (.cells #[.string tn,.slice A cols.length c,.int .i64 keys] 27)) W) => boxes_ft h)
 clear hR hL hcell
 by_cases h0 : chkT pg wd ⟨tn,cols,keys⟩ = 0
 ·have HOK:=Ld (chkT_ok h0)
  have HSL:=Ld (shaped_len HOK.out.2)
  have HPG:=Ld (right_pg HOK.out.1)
  have hz0 : ((chkT pg wd ⟨tn,cols,keys⟩ : Int) != 0) = false:=zz h0
  by_cases h1 : ((l.length : Int) != (cols.length : Int)) = true
  ·have HRES:=Ld (show valR pg wd ⟨tn,cols,keys⟩ (VI.dataL l) = ([],251) by rw [valR,if_neg (by rw [h0];decide),if_pos (.inl (by rw [HDL.out];have:=(bne_iff_ne.1 h1);exact fun e => this (by have e2 : l.length = cols.length:=e;omega)))])
   clear h0
   go_enter Tryz.func23,Tryz.ntmps23
   go_wp2_with (first
    | (go_at_call 27;go_must (refine (Check_rows_c pg wd A c ⟨tn,cols,keys⟩ _ (HR.out.below (two_below w _ _)) (cell_keep HC.out (Nat.le_refl _) (two_below w _ _))).mono ?_;rintro e w1 ⟨rfl,hb1⟩;have HB1:=Ld (hb1.mono (show w.heap.size + 2 ≤ _ by simp));obtain ⟨⟨q0,q1⟩,⟨q2,q3,q4⟩,q5,q6⟩:=HBX.out _ HB1.out;have HW1:=Ld q6;clear hb1 q6)))
   obtain ⟨_,_,_,qb⟩:=HBX.out _ HB1.out
   go_ret2
   exact ⟨by rw [HRES.out];rfl,qb⟩
  ·by_cases h2 : fitL cols (VI.dataL l) = true
   ·have HFT:=Ld h2
    have HLE:=Ld (show l.length = cols.length by have h1' : (l.length : Int) = (cols.length : Int):=(by simpa using h1);omega)
    have HLL:=Ld (show l.length ≤ 1000 by have:=HSL.out;have:=HLE.out;simp only at *;omega)
    have hkl : keys.toNat ≤ l.length:=by have:=HSL.out;have:=HLE.out;simp only at *;omega
    have hk0 : 0 ≤ keys:=by have:=HSL.out;simp only at this;omega
    obtain ⟨A3,hsl,hsr⟩:=slice_from (P:=Tryz.prog) 28 6 Tryz.underlying28 (fun W => by kernel_rfl) B l.length d keys.toNat keys (by omega) hkl HL.out.hc
    have hdl : (l.drop keys.toNat).length = l.length - keys.toNat:=List.length_drop
    rw [← hdl] at hsl
    have HDR:=Ld (fun W (h : Below w.heap.size w W) => drop_rd (HL.out.below h) hkl (hsr W _ (HL.out.below h).rd))
    obtain ⟨l2,hl2⟩ : ∃ l2,l.drop keys.toNat = l2:=⟨_,rfl⟩
    obtain ⟨d2,hd2⟩ : ∃ d2,d - keys.toNat = d2:=⟨_,rfl⟩
    have HD2:=Ld (show VI.dataL l2 = (VI.dataL l).drop keys.toNat by rw [← hl2];exact dataL_drop _ _)
    rw [hl2,hd2] at hsl HDR
    clear hdl hsr hl2 hd2
    by_cases h3 : chkL ((VI.dataL l).drop keys.toNat) = 0
    ·have HPE:=Ld (show packE (VI.dataL l2) = _ from (congrArg packE (HD2.out)).trans (pe0 h3))
     have HSZ:=Ld (show (⟨(packL ((VI.dataL l).drop keys.toNat)).toArray⟩ : ByteArray).size = (packL ((VI.dataL l).drop keys.toNat)).length by simp [ByteArray.size])
     by_cases h4 : pg / 8 < ((packL ((VI.dataL l).drop keys.toNat)).length : Int)
     ·have HRES:=Ld (show valR pg wd ⟨tn,cols,keys⟩ (VI.dataL l) = ([],4) by rw [valR,if_neg (by rw [h0];decide),if_neg (by rintro (h | h);exact h1 (by rw [HDL.out] at h;rw [bne_iff_ne];intro e;exact h (show l.length = cols.length by omega));rw [h2] at h;cases h),if_pos (.inr h4)])
      have hL4 : pg / 8 < ((packL ((VI.dataL l).drop keys.toNat)).length : Int):=h4
      have hpg1 : 0 ≤ pg:=by have:=HPG.out;omega
      have hpg2 : pg ≤ 8192:=by have:=HPG.out;omega
      clear h0 h2 h3 h4
      go_enter Tryz.func23,Tryz.ntmps23
      go_wp2_with (first
       | (go_at_call 27;go_must (refine (Check_rows_c pg wd A c ⟨tn,cols,keys⟩ _ (HR.out.below (two_below w _ _)) (cell_keep HC.out (Nat.le_refl _) (two_below w _ _))).mono ?_;rintro e w1 ⟨rfl,hb1⟩;have HB1:=Ld (hb1.mono (show w.heap.size + 2 ≤ _ by simp));obtain ⟨⟨q0,q1⟩,⟨q2,q3,q4⟩,q5,q6⟩:=HBX.out _ HB1.out;have HW1:=Ld q6;clear hb1 q6))
       | (go_at_call 47;go_must (refine (fit_c A c ⟨tn,cols,keys⟩ B d l _ (HR.out.below HW1.out) (HL.out.below HW1.out)).mono ?_;rintro e w2 ⟨rfl,hb2⟩;rw [HFT.out];have HB2:=Ld (HB1.out.trans (hb2.mono (show w.heap.size + 2 ≤ _ by omega)));clear q0 q1 q2 q3 q4 q5;obtain ⟨⟨q0,q1⟩,⟨q2,q3,q4⟩,q5,q6⟩:=HBX.out _ HB2.out;have HW2:=Ld q6;clear hb2 q6))
       | (go_at_call 48;go_must (refine (Pack_c A3 d2 l2 _ (HDR.out _ HW2.out) (cell_keep HC.out (Nat.le_refl _) HW2.out)).mono ?_;rintro e w4 ⟨rfl,hb4⟩;rw [HPE.out];have HB4:=Ld (HB2.out.trans (hb4.mono (show w.heap.size + 2 ≤ _ by omega)));clear q0 q1 q2 q3 q4 q5;obtain ⟨⟨q0,q1⟩,⟨q2,q3,q4⟩,q5,q6⟩:=HBX.out _ HB4.out;have HW4:=Ld q6;clear hb4 q6))
       | (go_at_call 51;go_must (refine (maxVal_c pg wd _ (by have:=HPG.out;omega) (by have:=HPG.out;omega)).mono ?_;rintro e w5 ⟨rfl,hb5⟩;have HB5:=Ld (HB4.out.trans (hb5.mono (show w.heap.size + 2 ≤ _ by omega)));clear q0 q1 q2 q3 q4 q5;obtain ⟨⟨q0,q1⟩,⟨q2,q3,q4⟩,q5,q6⟩:=HBX.out _ HB5.out;have HW5:=Ld q6;clear hb5 q6)))
      obtain ⟨_,_,_,qb⟩:=HBX.out _ HB5.out
      go_ret2
      exact ⟨by rw [HRES.out];rfl,qb⟩
     ·have HRES:=Ld (show valR pg wd ⟨tn,cols,keys⟩ (VI.dataL l) = (packL ((VI.dataL l).drop keys.toNat),0) by rw [valR,if_neg (by rw [h0];decide),if_neg (by rintro (h | h);exact h1 (by rw [HDL.out] at h;rw [bne_iff_ne];intro e;exact h (show l.length = cols.length by omega));rw [h2] at h;cases h),if_neg (by rintro (h | h);exact h h3;exact h4 h)])
      have hL4 : ((packL ((VI.dataL l).drop keys.toNat)).length : Int) ≤ pg / 8:=by omega
      have hpg1 : 0 ≤ pg:=by have:=HPG.out;omega
      have hpg2 : pg ≤ 8192:=by have:=HPG.out;omega
      clear h0 h2 h3 h4
      go_enter Tryz.func23,Tryz.ntmps23
      go_wp2_with (first
       | (go_at_call 27;go_must (refine (Check_rows_c pg wd A c ⟨tn,cols,keys⟩ _ (HR.out.below (two_below w _ _)) (cell_keep HC.out (Nat.le_refl _) (two_below w _ _))).mono ?_;rintro e w1 ⟨rfl,hb1⟩;have HB1:=Ld (hb1.mono (show w.heap.size + 2 ≤ _ by simp));obtain ⟨⟨q0,q1⟩,⟨q2,q3,q4⟩,q5,q6⟩:=HBX.out _ HB1.out;have HW1:=Ld q6;clear hb1 q6))
       | (go_at_call 47;go_must (refine (fit_c A c ⟨tn,cols,keys⟩ B d l _ (HR.out.below HW1.out) (HL.out.below HW1.out)).mono ?_;rintro e w2 ⟨rfl,hb2⟩;rw [HFT.out];have HB2:=Ld (HB1.out.trans (hb2.mono (show w.heap.size + 2 ≤ _ by omega)));clear q0 q1 q2 q3 q4 q5;obtain ⟨⟨q0,q1⟩,⟨q2,q3,q4⟩,q5,q6⟩:=HBX.out _ HB2.out;have HW2:=Ld q6;clear hb2 q6))
       | (go_at_call 48;go_must (refine (Pack_c A3 d2 l2 _ (HDR.out _ HW2.out) (cell_keep HC.out (Nat.le_refl _) HW2.out)).mono ?_;rintro e w4 ⟨rfl,hb4⟩;rw [HPE.out];have HB4:=Ld (HB2.out.trans (hb4.mono (show w.heap.size + 2 ≤ _ by omega)));clear q0 q1 q2 q3 q4 q5;obtain ⟨⟨q0,q1⟩,⟨q2,q3,q4⟩,q5,q6⟩:=HBX.out _ HB4.out;have HW4:=Ld q6;clear hb4 q6))
       | (go_at_call 51;go_must (refine (maxVal_c pg wd _ (by have:=HPG.out;omega) (by have:=HPG.out;omega)).mono ?_;rintro e w5 ⟨rfl,hb5⟩;have HB5:=Ld (HB4.out.trans (hb5.mono (show w.heap.size + 2 ≤ _ by omega)));clear q0 q1 q2 q3 q4 q5;obtain ⟨⟨q0,q1⟩,⟨q2,q3,q4⟩,q5,q6⟩:=HBX.out _ HB5.out;have HW5:=Ld q6;clear hb5 q6)))
      obtain ⟨_,_,_,qb⟩:=HBX.out _ HB5.out
      go_ret2
      exact ⟨by rw [HRES.out];rfl,qb⟩
    ·have HPE:=Ld (show packE (VI.dataL l2) = _ from (congrArg packE (HD2.out)).trans (pe1 h3))
     have HRES:=Ld (show valR pg wd ⟨tn,cols,keys⟩ (VI.dataL l) = ([],4) by rw [valR,if_neg (by rw [h0];decide),if_neg (by rintro (h | h);exact h1 (by rw [HDL.out] at h;rw [bne_iff_ne];intro e;exact h (show l.length = cols.length by omega));rw [h2] at h;cases h),if_pos (.inl h3)])
     have hz3:=nz h3
     clear h0 h2 h3
     go_enter Tryz.func23,Tryz.ntmps23
     go_wp2_with (first
      | (go_at_call 27;go_must (refine (Check_rows_c pg wd A c ⟨tn,cols,keys⟩ _ (HR.out.below (two_below w _ _)) (cell_keep HC.out (Nat.le_refl _) (two_below w _ _))).mono ?_;rintro e w1 ⟨rfl,hb1⟩;have HB1:=Ld (hb1.mono (show w.heap.size + 2 ≤ _ by simp));obtain ⟨⟨q0,q1⟩,⟨q2,q3,q4⟩,q5,q6⟩:=HBX.out _ HB1.out;have HW1:=Ld q6;clear hb1 q6))
      | (go_at_call 47;go_must (refine (fit_c A c ⟨tn,cols,keys⟩ B d l _ (HR.out.below HW1.out) (HL.out.below HW1.out)).mono ?_;rintro e w2 ⟨rfl,hb2⟩;rw [HFT.out];have HB2:=Ld (HB1.out.trans (hb2.mono (show w.heap.size + 2 ≤ _ by omega)));clear q0 q1 q2 q3 q4 q5;obtain ⟨⟨q0,q1⟩,⟨q2,q3,q4⟩,q5,q6⟩:=HBX.out _ HB2.out;have HW2:=Ld q6;clear hb2 q6))
      | (go_at_call 48;go_must (refine (Pack_c A3 d2 l2 _ (HDR.out _ HW2.out) (cell_keep HC.out (Nat.le_refl _) HW2.out)).mono ?_;rintro e w4 ⟨rfl,hb4⟩;rw [HPE.out];have HB4:=Ld (HB2.out.trans (hb4.mono (show w.heap.size + 2 ≤ _ by omega)));clear q0 q1 q2 q3 q4 q5;obtain ⟨⟨q0,q1⟩,⟨q2,q3,q4⟩,q5,q6⟩:=HBX.out _ HB4.out;have HW4:=Ld q6;clear hb4 q6)))
     obtain ⟨_,_,_,qb⟩:=HBX.out _ HB4.out
     go_ret2
     exact ⟨by rw [HRES.out];rfl,qb⟩
   ·have h2' : fitL cols (VI.dataL l) = false:=by simpa using h2
    have HFT:=Ld h2'
    have HRES:=Ld (show valR pg wd ⟨tn,cols,keys⟩ (VI.dataL l) = ([],251) by rw [valR,if_neg (by rw [h0];decide),if_pos (.inr h2')])
    clear h0 h2 h2'
    go_enter Tryz.func23,Tryz.ntmps23
    go_wp2_with (first
     | (go_at_call 27;go_must (refine (Check_rows_c pg wd A c ⟨tn,cols,keys⟩ _ (HR.out.below (two_below w _ _)) (cell_keep HC.out (Nat.le_refl _) (two_below w _ _))).mono ?_;rintro e w1 ⟨rfl,hb1⟩;have HB1:=Ld (hb1.mono (show w.heap.size + 2 ≤ _ by simp));obtain ⟨⟨q0,q1⟩,⟨q2,q3,q4⟩,q5,q6⟩:=HBX.out _ HB1.out;have HW1:=Ld q6;clear hb1 q6))
     | (go_at_call 47;go_must (refine (fit_c A c ⟨tn,cols,keys⟩ B d l _ (HR.out.below HW1.out) (HL.out.below HW1.out)).mono ?_;rintro e w2 ⟨rfl,hb2⟩;rw [HFT.out];have HB2:=Ld (HB1.out.trans (hb2.mono (show w.heap.size + 2 ≤ _ by omega)));clear q0 q1 q2 q3 q4 q5;obtain ⟨⟨q0,q1⟩,⟨q2,q3,q4⟩,q5,q6⟩:=HBX.out _ HB2.out;have HW2:=Ld q6;clear hb2 q6)))
    obtain ⟨_,_,_,qb⟩:=HBX.out _ HB2.out
    go_ret2
    exact ⟨by rw [HRES.out];rfl,qb⟩
 ·have hz0:=nz h0
  have HRES:=Ld (show valR pg wd ⟨tn,cols,keys⟩ (VI.dataL l) = ([],chkT pg wd ⟨tn,cols,keys⟩) by rw [valR,if_pos h0])
  clear h0
  go_enter Tryz.func23,Tryz.ntmps23
  go_wp2_with (first
   | (go_at_call 27;go_must (refine (Check_rows_c pg wd A c ⟨tn,cols,keys⟩ _ (HR.out.below (two_below w _ _)) (cell_keep HC.out (Nat.le_refl _) (two_below w _ _))).mono ?_;rintro e w1 ⟨rfl,hb1⟩;have HB1:=Ld (hb1.mono (show w.heap.size + 2 ≤ _ by simp));obtain ⟨⟨q0,q1⟩,⟨q2,q3,q4⟩,q5,q6⟩:=HBX.out _ HB1.out;have HW1:=Ld q6;clear hb1 q6)))
  obtain ⟨_,_,_,qb⟩:=HBX.out _ HB1.out
  go_ret2
  exact ⟨by rw [HRES.out];rfl,qb⟩
theorem Bounds_c [Inhabited Thr] (pg wd : Int) (A : Option Addr) (c : Nat) (t : TabD) (B : Option Addr) (d : Nat) (l : List VI) (w : World) (hR : RdT w A c t) (hL : RdI w B d l) (hcell : ∃ m,w.cell? ⟨1,0,none⟩ = some (.int .i64 m)) :
 Calls Tryz.prog 25 #[vF pg wd,vT t A c,.slice B l.length d] w fun e w' => e = .returned (.tuple #[.string ⟨(bndR pg wd t (VI.dataL l)).1.toArray⟩,.string ⟨(bndR pg wd t (VI.dataL l)).2.1.toArray⟩,.int .i64 (bndR pg wd t (VI.dataL l)).2.2]) ∧ Below w.heap.size w w':=by
 have HR:=Ld hR
 have HL:=Ld hL
 have HC:=Ld hcell
 have hlen:=hR.hb
 have hlen2:=hL.hb
 have hkk:=hR.hk
 rcases t with ⟨tn,cols,keys⟩
 simp only at hlen hkk
 have HDL:=Ld (show (VI.dataL l).length = l.length by rw [dataL_eq,List.length_map])
 have HBX:=Ld (fun W (h : Below (w.heap.size + 2) ((w.alloc (.cells #[.int .i64 pg,.int .i64 wd] 24)).alloc (.cells #[.string tn,.slice A cols.length c,.int .i64 keys] 27)) W) => boxes_ft h)
 clear hR hL hcell
 by_cases h0 : chkT pg wd ⟨tn,cols,keys⟩ = 0
 ·have HOK:=Ld (chkT_ok h0)
  have HSL:=Ld (shaped_len HOK.out.2)
  have HPG:=Ld (right_pg HOK.out.1)
  have hz0 : ((chkT pg wd ⟨tn,cols,keys⟩ : Int) != 0) = false:=zz h0
  by_cases h1 : keys < (l.length : Int)
  ·have HRES:=Ld (show bndR pg wd ⟨tn,cols,keys⟩ (VI.dataL l) = ([],[],251) by rw [bndR,if_neg (by rw [h0];decide),if_pos (.inl (by rw [HDL.out];exact h1))])
   clear h0
   go_enter Tryz.func25,Tryz.ntmps25
   go_wp2_with (first
    | (go_at_call 27;go_must (refine (Check_rows_c pg wd A c ⟨tn,cols,keys⟩ _ (HR.out.below (two_below w _ _)) (cell_keep HC.out (Nat.le_refl _) (two_below w _ _))).mono ?_;rintro e w1 ⟨rfl,hb1⟩;have HB1:=Ld (hb1.mono (show w.heap.size + 2 ≤ _ by simp));obtain ⟨⟨q0,q1⟩,⟨q2,q3,q4⟩,q5,q6⟩:=HBX.out _ HB1.out;have HW1:=Ld q6;clear hb1 q6)))
   obtain ⟨_,_,_,qb⟩:=HBX.out _ HB1.out
   go_ret3
   exact ⟨by rw [HRES.out];rfl,qb⟩
  ·by_cases h2 : fitL cols (VI.dataL l) = true
   ·have HFT:=Ld h2
    have HLE:=Ld (show (l.length : Int) ≤ keys by omega)
    have HLL:=Ld (show l.length ≤ 1000 by have:=HSL.out;have:=HLE.out;simp only at *;omega)
    by_cases h3 : chkL (underL ⟨tn,cols,keys⟩ (VI.dataL l)) = 0
    ·have HPE:=Ld (show underE (VI.dataL (vText tn :: l)) = _ from (congrArg underE (under_data ⟨tn,cols,keys⟩ l)).trans (ue0 h3))
     have HRES:=Ld (show bndR pg wd ⟨tn,cols,keys⟩ (VI.dataL l) = (packL (underL ⟨tn,cols,keys⟩ (VI.dataL l)),hiB (packL (underL ⟨tn,cols,keys⟩ (VI.dataL l))),0) by rw [bndR,if_neg (by rw [h0];decide),if_neg (by rintro (h | h);exact h1 (by rw [HDL.out] at h;exact h);rw [h2] at h;cases h),if_neg (by rw [h3];decide)])
     clear h0 h2 h3
     go_enter Tryz.func25,Tryz.ntmps25
     go_wp2_with (first
      | (go_at_call 27;go_must (refine (Check_rows_c pg wd A c ⟨tn,cols,keys⟩ _ (HR.out.below (two_below w _ _)) (cell_keep HC.out (Nat.le_refl _) (two_below w _ _))).mono ?_;rintro e w1 ⟨rfl,hb1⟩;have HB1:=Ld (hb1.mono (show w.heap.size + 2 ≤ _ by simp));obtain ⟨⟨q0,q1⟩,⟨q2,q3,q4⟩,q5,q6⟩:=HBX.out _ HB1.out;have HW1:=Ld q6;clear hb1 q6))
      | (go_at_call 47;go_must (refine (fit_c A c ⟨tn,cols,keys⟩ B d l _ (HR.out.below HW1.out) (HL.out.below HW1.out)).mono ?_;rintro e w2 ⟨rfl,hb2⟩;rw [HFT.out];have HB2:=Ld (HB1.out.trans (hb2.mono (show w.heap.size + 2 ≤ _ by omega)));clear q0 q1 q2 q3 q4 q5;obtain ⟨⟨q0,q1⟩,⟨q2,q3,q4⟩,q5,q6⟩:=HBX.out _ HB2.out;have HW2:=Ld q6;clear hb2 q6))
      | (go_at_call 49;go_must (refine (under_c A c ⟨tn,cols,keys⟩ B d l _ HR.out.hn (HL.out.below HW2.out) HLL.out).mono ?_;rintro e w3 ⟨A3,c3,rfl,hR3,hb3⟩;have HR3:=Ld hR3;have HB3:=Ld (HB2.out.trans (hb3.mono (show w.heap.size + 2 ≤ _ by omega)));clear q0 q1 q2 q3 q4 q5;obtain ⟨⟨q0,q1⟩,⟨q2,q3,q4⟩,q5,q6⟩:=HBX.out _ HB3.out;have HW3:=Ld q6;clear hb3 hR3 q6))
      | (go_at_call 52;go_must (refine (Under_c A3 c3 (vText tn :: l) _ HR3.out (cell_keep HC.out (Nat.le_refl _) HW3.out)).mono ?_;rintro e w4 ⟨rfl,hb4⟩;rw [HPE.out];have HB4:=Ld (HB3.out.trans (hb4.mono (show w.heap.size + 2 ≤ _ by omega)));clear q0 q1 q2 q3 q4 q5;obtain ⟨⟨q0,q1⟩,⟨q2,q3,q4⟩,q5,q6⟩:=HBX.out _ HB4.out;have HW4:=Ld q6;clear hb4 q6)))
     obtain ⟨_,_,_,qb⟩:=HBX.out _ HB4.out
     go_ret3
     exact ⟨by rw [HRES.out];rfl,qb⟩
    ·have HPE:=Ld (show underE (VI.dataL (vText tn :: l)) = _ from (congrArg underE (under_data ⟨tn,cols,keys⟩ l)).trans (ue1 h3))
     have HRES:=Ld (show bndR pg wd ⟨tn,cols,keys⟩ (VI.dataL l) = ([],[],4) by rw [bndR,if_neg (by rw [h0];decide),if_neg (by rintro (h | h);exact h1 (by rw [HDL.out] at h;exact h);rw [h2] at h;cases h),if_pos h3])
     have hz3:=nz h3
     clear h0 h2 h3
     go_enter Tryz.func25,Tryz.ntmps25
     go_wp2_with (first
      | (go_at_call 27;go_must (refine (Check_rows_c pg wd A c ⟨tn,cols,keys⟩ _ (HR.out.below (two_below w _ _)) (cell_keep HC.out (Nat.le_refl _) (two_below w _ _))).mono ?_;rintro e w1 ⟨rfl,hb1⟩;have HB1:=Ld (hb1.mono (show w.heap.size + 2 ≤ _ by simp));obtain ⟨⟨q0,q1⟩,⟨q2,q3,q4⟩,q5,q6⟩:=HBX.out _ HB1.out;have HW1:=Ld q6;clear hb1 q6))
      | (go_at_call 47;go_must (refine (fit_c A c ⟨tn,cols,keys⟩ B d l _ (HR.out.below HW1.out) (HL.out.below HW1.out)).mono ?_;rintro e w2 ⟨rfl,hb2⟩;rw [HFT.out];have HB2:=Ld (HB1.out.trans (hb2.mono (show w.heap.size + 2 ≤ _ by omega)));clear q0 q1 q2 q3 q4 q5;obtain ⟨⟨q0,q1⟩,⟨q2,q3,q4⟩,q5,q6⟩:=HBX.out _ HB2.out;have HW2:=Ld q6;clear hb2 q6))
      | (go_at_call 49;go_must (refine (under_c A c ⟨tn,cols,keys⟩ B d l _ HR.out.hn (HL.out.below HW2.out) HLL.out).mono ?_;rintro e w3 ⟨A3,c3,rfl,hR3,hb3⟩;have HR3:=Ld hR3;have HB3:=Ld (HB2.out.trans (hb3.mono (show w.heap.size + 2 ≤ _ by omega)));clear q0 q1 q2 q3 q4 q5;obtain ⟨⟨q0,q1⟩,⟨q2,q3,q4⟩,q5,q6⟩:=HBX.out _ HB3.out;have HW3:=Ld q6;clear hb3 hR3 q6))
      | (go_at_call 52;go_must (refine (Under_c A3 c3 (vText tn :: l) _ HR3.out (cell_keep HC.out (Nat.le_refl _) HW3.out)).mono ?_;rintro e w4 ⟨rfl,hb4⟩;rw [HPE.out];have HB4:=Ld (HB3.out.trans (hb4.mono (show w.heap.size + 2 ≤ _ by omega)));clear q0 q1 q2 q3 q4 q5;obtain ⟨⟨q0,q1⟩,⟨q2,q3,q4⟩,q5,q6⟩:=HBX.out _ HB4.out;have HW4:=Ld q6;clear hb4 q6)))
     obtain ⟨_,_,_,qb⟩:=HBX.out _ HB4.out
     go_ret3
     exact ⟨by rw [HRES.out];rfl,qb⟩
   ·have h2' : fitL cols (VI.dataL l) = false:=by simpa using h2
    have HFT:=Ld h2'
    have HRES:=Ld (show bndR pg wd ⟨tn,cols,keys⟩ (VI.dataL l) = ([],[],251) by rw [bndR,if_neg (by rw [h0];decide),if_pos (.inr h2')])
    clear h0 h2 h2'
    go_enter Tryz.func25,Tryz.ntmps25
    go_wp2_with (first
     | (go_at_call 27;go_must (refine (Check_rows_c pg wd A c ⟨tn,cols,keys⟩ _ (HR.out.below (two_below w _ _)) (cell_keep HC.out (Nat.le_refl _) (two_below w _ _))).mono ?_;rintro e w1 ⟨rfl,hb1⟩;have HB1:=Ld (hb1.mono (show w.heap.size + 2 ≤ _ by simp));obtain ⟨⟨q0,q1⟩,⟨q2,q3,q4⟩,q5,q6⟩:=HBX.out _ HB1.out;have HW1:=Ld q6;clear hb1 q6))
     | (go_at_call 47;go_must (refine (fit_c A c ⟨tn,cols,keys⟩ B d l _ (HR.out.below HW1.out) (HL.out.below HW1.out)).mono ?_;rintro e w2 ⟨rfl,hb2⟩;rw [HFT.out];have HB2:=Ld (HB1.out.trans (hb2.mono (show w.heap.size + 2 ≤ _ by omega)));clear q0 q1 q2 q3 q4 q5;obtain ⟨⟨q0,q1⟩,⟨q2,q3,q4⟩,q5,q6⟩:=HBX.out _ HB2.out;have HW2:=Ld q6;clear hb2 q6)))
    obtain ⟨_,_,_,qb⟩:=HBX.out _ HB2.out
    go_ret3
    exact ⟨by rw [HRES.out];rfl,qb⟩
 ·have hz0:=nz h0
  have HRES:=Ld (show bndR pg wd ⟨tn,cols,keys⟩ (VI.dataL l) = ([],[],chkT pg wd ⟨tn,cols,keys⟩) by rw [bndR,if_pos h0])
  clear h0
  go_enter Tryz.func25,Tryz.ntmps25
  go_wp2_with (first
   | (go_at_call 27;go_must (refine (Check_rows_c pg wd A c ⟨tn,cols,keys⟩ _ (HR.out.below (two_below w _ _)) (cell_keep HC.out (Nat.le_refl _) (two_below w _ _))).mono ?_;rintro e w1 ⟨rfl,hb1⟩;have HB1:=Ld (hb1.mono (show w.heap.size + 2 ≤ _ by simp));obtain ⟨⟨q0,q1⟩,⟨q2,q3,q4⟩,q5,q6⟩:=HBX.out _ HB1.out;have HW1:=Ld q6;clear hb1 q6)))
  obtain ⟨_,_,_,qb⟩:=HBX.out _ HB1.out
  go_ret3
  exact ⟨by rw [HRES.out];rfl,qb⟩
end
section
open Go.RowKit
set_option maxHeartbeats 1000000
set_option maxRecDepth 100000
theorem icells_take (l : List VI) (k : Nat) : icells (l.take k) = (icells l).take (k * 6):=by
 induction l generalizing k with
 | nil => simp [icells]
 | cons x l ih =>
   cases k with
   | zero => simp [icells]
   | succ k =>
     rw [List.take_succ_cons,Nat.succ_mul]
     simp only [icells,List.flatMap_cons] at ih ⊢
     rw [ih,Nat.add_comm,List.take_add]
     rfl
theorem take_rd [Inhabited Thr] {W : World} {A : Option Addr} {c k : Nat} {l : List VI} (h : RdI W A c l) (hk : k ≤ l.length) : RdI W A c (l.take k):=by
 have hl : (l.take k).length = k:=by rw [List.length_take];omega
 exact ⟨by rw [hl,icells_take];exact h.rd.take hk,by have:=h.hc;omega,by have:=h.hb;omega,fun y hy => h.hx y (List.mem_of_mem_take hy)⟩
theorem eql_nil (w : World) (a : Addr) (l c : Nat) : (binOp .eql 28 (.slice (some a) l c) (.slice none 0 0)).run Tryz.prog w = .ok (.bool false) w:=by
 have:=run_equal_slice_nil (P:=Tryz.prog) w 28 54 (some a) l c Tryz.underlying28
 simp [binOp,this,Result.andThen]
theorem Clone_c [Inhabited Thr] (b o c : Nat) (l : List VI) (w : World) (hL : RdI w (some ⟨b,o,none⟩) c l) : Calls Tryz.prog 66 #[.slice (some ⟨b,o,none⟩) l.length c] w fun e w' => ∃ v,e = .returned v ∧ OwnI w' w.heap.size v l ∧ Below w.heap.size w w':=by
 have HL:=Ld hL
 have hlen:=hL.hb
 clear hL
 have HO:=Ld (show OwnI (w.alloc (.cells #[] 54)) w.heap.size (.slice (some ⟨w.heap.size,0,none⟩) 0 0) [] from ⟨own_empty w _ _ _ rfl _ (Nat.le_refl _),by simp,by simp⟩)
 have HB:=Ld ((Below.refl w.heap.size w).alloc (Nat.le_refl _) (.cells #[] 54))
 have HL2:=Ld (HL.out.below HB.out)
 have hen:=eql_nil
 go_enter Tryz.func66,Tryz.ntmps66
 go_wp2_with (at_builtin;go_must (refine wpList_items (B:=w.heap.size) (l:=[]) (ys:=l) rfl (.tmp 5) (.tmp 6) rfl HO.out rfl rfl HL2.out.rd rfl HL2.out.hx (fun y hy => (HL.out.hx y hy).blk.mono fun k hk e => by have:=(HO.out.own.lt k e).1;omega) (by simp;omega) HB.out.size ?_;intro v2 w3 hO2 hK2 _;have HO2:=Ld hO2;have HK2:=Ld (HB.out.trans (hK2.below HB.out.size (fun j hj e => by have:=(HO.out.own.lt j e).1;omega)));clear hO2 hK2))
 go_ret
 exact ⟨v2,rfl,by have:=HO2.out;simpa using this,HK2.out⟩
theorem boxes_ftp {w W : World} {a b c d e f g : Value} (h : Below (w.heap.size + 3) (((w.alloc (.cells #[a,b] 24)).alloc (.cells #[c,d,e] 27)).alloc (.cells #[f,g] 56)) W) :
 (W.cell? ⟨w.heap.size,0,none⟩ = some a ∧ W.cell? ⟨w.heap.size,1,none⟩ = some b) ∧ (W.cell? ⟨w.heap.size + 1,0,none⟩ = some c ∧ W.cell? ⟨w.heap.size + 1,1,none⟩ = some d ∧ W.cell? ⟨w.heap.size + 1,2,none⟩ = some e) ∧
   (W.cell? ⟨w.heap.size + 2,0,none⟩ = some f ∧ W.cell? ⟨w.heap.size + 2,1,none⟩ = some g) ∧ w.heap.size + 2 < W.heap.size ∧ Below w.heap.size w W:=by
 have hh:=below_a (w:=(w.alloc (.cells #[a,b] 24)).alloc (.cells #[c,d,e] 27)) (w1:=W) (h.mono (by simp))
 have h2 : W.heap[w.heap.size + 2]? = some (.cells #[f,g] 56 (0,0)):=(h.block _ (by omega)).trans (alloc3_at w _ _ _)
 obtain ⟨p,q,r,s⟩:=boxes_ft (w:=w) (W:=W) (hh.mono (by simp))
 exact ⟨p,q,⟨cell_of_row _ _ 0 _ _ _ h2,cell_of_row _ _ 1 _ _ _ h2⟩,(Array.getElem?_eq_some_iff.1 h2).1,s⟩
def rowR (pg wd : Int) (t : TabD) (key val : List UInt8) : Option (List ItemD) × Nat :=
 if chkT pg wd t ≠ 0 then (none,chkT pg wd t) else
 match unpB key,unpB val with
 | some (k0 :: k),some v =>
   if ((k.length : Int) ≠ t.keys ∨ k0.k ≠ 5 ∨ k0.t.data.toList ≠ t.name.data.toList) then (none,251)
   else if (keyR pg wd t ((k ++ v).take t.keys.toNat)).2 ≠ 0 ∨ (valR pg wd t (k ++ v)).2 ≠ 0 ∨ (keyR pg wd t ((k ++ v).take t.keys.toNat)).1 ≠ key ∨ (valR pg wd t (k ++ v)).1 ≠ val then (none,251)
   else (some (k ++ v),0)
 | _,_ => (none,251)
def RowEnd [Inhabited Thr] (r : Option (List ItemD) × Nat) (w : World) (e : Ending) (w' : World) : Prop :=
 Below w.heap.size w w' ∧ match r with
 | (none,n) => e = .returned (.tuple #[.slice none 0 0,.int .i64 n])
 | (some l,_) => ∃ L A c,e = .returned (.tuple #[.slice A L.length c,.int .i64 0]) ∧ VI.dataL L = l ∧ OwnI w' w.heap.size (.slice A L.length c) L ∧ RdI w' A c L ∧ ∀ x ∈ L,BlkV (fun k => w.heap.size ≤ k) x
end
end Go.Proofs.YtonjgedhmmnolaaGreatDoor
