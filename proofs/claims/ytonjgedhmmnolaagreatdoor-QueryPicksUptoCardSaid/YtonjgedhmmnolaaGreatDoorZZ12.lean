import Derived.Test.YtonjgedhmmnolaaGreatDoorZZ10
namespace Go.Proofs.YtonjgedhmmnolaaGreatDoor
section
open Go.RowKit
set_option maxHeartbeats 4000000
set_option maxRecDepth 100000
def FoldEndP [Inhabited Thr] (P : Nat → Prop) (kd fo : Int) (l : List ItemD) (w : World) (e : Ending) (w' : World) : Prop :=
 ∃ (y : VI) (n : Nat),e = .returned (.tuple #[y.val,.int .i64 n]) ∧ FoldOk kd fo l y.data n ∧ RdV w' y ∧ BlkV P y ∧ Below w.heap.size w w'
def endV (p : Int → Bool) : List VI → VI
 | [] => nullV
 | m :: r => bestL p m r
theorem endV_data (p : Int → Bool) (l : List VI) : (endV p l).data = endD p (VI.dataL l):=by
 cases l with
 | nil => simp [endV,endD,VI.dataL]
 | cons m r => rw [endV,best_data,VI.dataL,endD]
theorem bestL_snoc (p : Int → Bool) (m x : VI) (l : List VI) : bestL p m (l ++ [x]) = if p (cmpI x.data (bestL p m l).data) = true then x else bestL p m l:=by
 induction l generalizing m with
 | nil => rw [List.nil_append,bestL,bestL,bestL]
 | cons y l ih => rw [List.cons_append,bestL,bestL,ih]
theorem endV_take (p : Int → Bool) (l : List VI) (k : Nat) (h : k < l.length) (x : VI) (hx : l[k] = x) : endV p (l.take (k + 1)) = if k = 0 ∨ p (cmpI x.data (endV p (l.take k)).data) = true then x else endV p (l.take k):=by
 rw [List.take_succ_eq_append_getElem h,hx]
 cases l with
 | nil => simp at h
 | cons y l =>
   cases k with
   | zero => rw [if_pos (.inl rfl)];rfl
   | succ k =>
     rw [List.take_succ_cons,List.cons_append,endV,endV,bestL_snoc]
     by_cases hp : p (cmpI x.data (bestL p y (l.take k)).data) = true
     ·rw [if_pos hp,if_pos (.inr hp)]
     ·rw [if_neg hp,if_neg (by rintro (h | h);cases h;exact hp h)]
theorem box6 {W : World} {g : Nat} {k n : Int} {b : Bool} {f : Nat} {t : ByteArray} {A : Option Addr} {m c : Nat} (h : W.heap[g]? = some (.cells (c6 k b n f t A m c) 54 (0,0))) :
 W.cell? ⟨g,0,none⟩ = some (.int .u8 k) ∧ W.cell? ⟨g,1,none⟩ = some (.bool b) ∧ W.cell? ⟨g,2,none⟩ = some (.int .i64 n) ∧ W.cell? ⟨g,3,none⟩ = some (.float .f64 f) ∧ W.cell? ⟨g,4,none⟩ = some (.string t) ∧ W.cell? ⟨g,5,none⟩ = some (.slice A m c) :=
 ⟨cell_of_row _ _ 0 _ _ _ h,cell_of_row _ _ 1 _ _ _ h,cell_of_row _ _ 2 _ _ _ h,cell_of_row _ _ 3 _ _ _ h,cell_of_row _ _ 4 _ _ _ h,cell_of_row _ _ 5 _ _ _ h⟩
theorem refFoldBest_c [Inhabited Thr] (A : Option Addr) (c : Nat) (t : TabD) (q : QryV) (B : Option Addr) (d : Nat) (l : List VI) (a : Nat) (P : Nat → Prop) (w : World) (hR : RdT w A c t) (hQ : RdQ w q) (hL : RdI w B d l) (ha : findC t q.over = a) (hac : a < t.cols.length)
 (hf : q.fold = 2 ∨ q.fold = 3) (hP : ∀ x ∈ l,BlkV P x) :
 Calls Tryz.prog 45 #[vT t A c,q.val,.slice B l.length d] w (FoldEndP P (kindAt t a) q.fold (VI.dataL l) w):=by
 have HP:=Ld hP
 clear hP
 have HR:=Ld hR
 have HQ:=Ld hQ
 have HL:=Ld hL
 have HA:=Ld ha
 have hlb:=hL.hb
 obtain ⟨kd,hkd⟩ : ∃ kd,kindAt t a = kd:=⟨_,rfl⟩
 have HKD:=Ld hkd
 rw [HKD.out]
 rcases t with ⟨tn,cols,keys⟩
 rcases q with ⟨qt,fr,tt,wh,qc,qd,ql,qf,qo,AF,cF,AT,cT,AW,cW,AC,cC⟩
 simp only [QryV.val,QryV.cells] at hf hac HA ⊢
 obtain ⟨W0,hW0⟩ : ∃ W0,(((w.alloc (.cells #[.string tn,.slice A cols.length c,.int .i64 keys] 27)).alloc (.cells #[.string qt,.slice AF fr.length cF,.slice AT tt.length cT,.slice AW wh.length cW,.slice AC qc.length cC,.bool qd,.int .i64 ql,.int .u8 qf,.string qo] 33)).alloc (.cells (c6 0 false 0 0 ⟨#[]⟩ none 0 0) 54)) = W0:=⟨_,rfl⟩
 have HW0:=Ld hW0
 have HBX:=Ld (fun W (h : Below (w.heap.size + 3) W0 W) => boxes_tqi (hW0 ▸ h))
 have HS0:=Ld (show W0.heap.size = w.heap.size + 3 by rw [← hW0];simp)
 have HWB:=Ld (show Below w.heap.size w W0 by rw [← hW0];exact (two_below w _ _).alloc (by simp;omega) _)
 have HCR:=Ld (show Rd w 3 A cols.length (ccells cols) from hR.rd)
 obtain ⟨tb,te,rfl⟩ : ∃ tb te,A = some ⟨tb,te,none⟩:=by obtain ⟨b,o,e,_⟩:=HCR.out.2 (by omega);exact ⟨b,o,e⟩
 have HCA:=Ld (fun W (h : Below (w.heap.size + 3) W0 W) => col_at (HCR.out.below (HBX.out W h).2.2.2.2) hac)
 have HKE:=Ld (show cols[a].kind = kd by rw [← HKD.out,kindAt,Int.toNat_natCast];simp only;rw [List.getElem?_eq_getElem hac])
 simp only [HKE.out] at HCA
 clear hR hQ hL ha hW0 hkd
 have HB0:=Ld (Below.refl (w.heap.size + 3) W0)
 go_enter Tryz.func45,Tryz.ntmps45
 go_upto_region 1 with fail
 rw [HW0.out]
 refine wp_region_sched (S:=fun W => Below (w.heap.size + 3) W0 W) [(0,true),(1,true),(2,true),(3,true),(4,true),(5,false),(6,true),(7,true),(8,true),(9,true)] (by kernel_rfl) (by kernel_rfl) (by kernel_rfl) (fun _ _ d _ _ h => by cases d <;> exact h) HB0.out.drew ?_
 repeat (apply sched_take;(exact rfl);rfl;(intro W hW;obtain ⟨⟨q0,q1,q2⟩,⟨a0,a1,a2,a3,a4,a5,a6,a7,a8⟩,_,q3,_⟩:=HBX.out W hW;obtain ⟨c0,c1,c2⟩:=HCA.out W hW;go_simp;(try with_reducible rfl));simp only [Act.put,List.setIfInBounds_toArray,List.set_cons_zero,List.set_cons_succ])
 apply sched_run;(exact rfl);rfl;intro K hK;go_simp
 refine (find_c (some ⟨tb,te,none⟩) c ⟨tn,cols,keys⟩ qo _ (HR.out.below (HBX.out _ HB0.out.drew).2.2.2.2)).mono ?_
 rw [HA.out]
 rintro e V1 ⟨rfl,hb⟩
 have HB1:=Ld (HB0.out.drew.trans (hb.mono (show w.heap.size + 3 ≤ W0.drew.heap.size by rw [show W0.drew.heap.size = W0.heap.size from rfl,HS0.out];exact Nat.le_refl _)))
 clear hb
 refine hK.out _ _ HB1.out (fun _ => ?_)
 clear hK K
 try simp only [Act.put,List.setIfInBounds_toArray,List.set_cons_zero,List.set_cons_succ]
 repeat (apply sched_take;(exact rfl);rfl;(intro W hW;obtain ⟨⟨q0,q1,q2⟩,⟨a0,a1,a2,a3,a4,a5,a6,a7,a8⟩,_,q3,_⟩:=HBX.out W hW;obtain ⟨c0,c1,c2⟩:=HCA.out W hW;go_simp;(try with_reducible rfl));simp only [Act.put,List.setIfInBounds_toArray,List.set_cons_zero,List.set_cons_succ])
 refine sched_done ?_
 obtain ⟨⟨q0,q1,q2⟩,⟨a0,a1,a2,a3,a4,a5,a6,a7,a8⟩,hrow,q3,q4⟩:=HBX.out _ HB1.out
 have HROW:=Ld hrow
 have HW:=Ld q4
 have HZ1:=Ld (show w.heap.size + 3 ≤ V1.heap.size from q3)
 clear q4 hrow
 clear HKE HKD
 rcases hf with rfl | rfl
 ·skip
  go_wp2
  go_loopw [10] (fun i wr => ∃ (k : Nat) (m : VI),k ≤ l.length ∧ i = .int .i64 k ∧ Hid (m = endV (fun i => decide (i < 0)) (l.take k)) ∧ Hid (RdV w m) ∧ Hid (BlkV P m) ∧ Hid (wr.heap[V1.heap.size]? = some (.cells (c6 m.k m.b m.n m.f m.t m.A m.l.length m.c) 54 (0,0))) ∧ Hid (Below (w.heap.size + 3) W0 wr)) (fun i _ => l.length - (intOf i).toNat)
  case atStart => exact ⟨0,nullV,Nat.zero_le _,rfl,Ld rfl,Ld (RdV.leaf _ (by decide) (by decide) (by decide)),Ld .leaf,Ld (heap_alloc_new V1 _),Ld (HB1.out.alloc HZ1.out _)⟩
  case round =>
   clear q0 q1 q2 a0 a1 a2 a3 a4 a5 a6 a7 a8 q3 HROW HW
   obtain ⟨k,m,hk,rfl,hm,hM,hMB,hG,hB⟩:=hrel
   obtain ⟨⟨q0,q1,q2⟩,⟨a0,a1,a2,a3,a4,a5,a6,a7,a8⟩,hrow,q3,q4⟩:=HBX.out _ hB.out
   have HROW:=Ld hrow
   have HW:=Ld q4
   have HZ:=Ld (show w.heap.size + 3 ≤ wr.heap.size from q3)
   clear q4 hrow
   have hgl : V1.heap.size < wr.heap.size:=(Array.getElem?_eq_some_iff.1 hG.out).1
   by_cases hlt : k < l.length
   ·have HLr:=Ld (HL.out.below HW.out)
    obtain ⟨ab,ao,rfl⟩ : ∃ ab ao,B = some ⟨ab,ao,none⟩:=by obtain ⟨b,o,e,_⟩:=HLr.out.rd.2 (by omega);exact ⟨b,o,e⟩
    have HCE:=Ld (fun W (h : Below wr.heap.size wr W) => item_at (HLr.out.below h).rd hlt)
    have HFD:=Ld (endV_take (fun i => decide (i < 0)) l k hlt _ rfl)
    rw [← hm.out] at HFD
    have HY:=Ld (HL.out.hx _ (List.getElem_mem hlt))
    have HYB:=Ld (HP.out _ (List.getElem_mem hlt))
    obtain ⟨y,hy⟩ : ∃ y,l[k] = y:=⟨_,rfl⟩
    simp only [hy] at HCE HFD HY HYB
    clear hy hm
    rcases y with ⟨yk,yb,yn,yf,yt,yA,yc,yl⟩
    rcases m with ⟨mk,mb,mn,mf,mt,mA,mc,ml⟩
    simp only [VI.k,VI.b,VI.n,VI.f,VI.t,VI.A,VI.c,VI.l] at HCE hG
    have HMC:=Ld (fun W (h : Below wr.heap.size wr W) => box6 ((h.block V1.heap.size hgl).trans hG.out))
    obtain ⟨ci,hci⟩ : ∃ ci,cmpI (VI.mk yk yb yn yf yt yA yc yl).data (VI.mk mk mb mn mf mt mA mc ml).data = ci:=⟨_,rfl⟩
    have HCI:=Ld hci
    rw [HCI.out] at HFD
    clear hci
    go_upto_region 7 with fail
    have HBY:=Ld (fun W (h : Below wr.heap.size wr W) => HBX.out W (hB.out.trans (h.mono HZ.out)))
    clear q0 q1 q2 a0 a1 a2 a3 a4 a5 a6 a7 a8 q3
    refine wp_region_sched (S:=fun W => Below wr.heap.size wr W) [(0,true),(1,true),(2,true),(3,true),(4,true),(5,false),(6,true)] (by kernel_rfl) (by kernel_rfl) (by kernel_rfl) (fun _ _ d _ _ h => by cases d <;> exact h) (Below.refl _ _).drew ?_
    repeat (apply sched_take;(exact rfl);rfl;(intro W hW;obtain ⟨p0,p1,p2,p3,p4,p5⟩:=HCE.out W hW;obtain ⟨m0,m1,m2,m3,m4,m5⟩:=HMC.out W hW;go_simp;(try with_reducible rfl));simp only [Act.put,List.setIfInBounds_toArray,List.set_cons_zero,List.set_cons_succ])
    apply sched_run;(exact rfl);rfl;intro K hK;go_simp
    have hbd:=(Below.refl wr.heap.size wr).drew
    refine (refCompare_c (.mk yk yb yn yf yt yA yc yl) (.mk mk mb mn mf mt mA mc ml) _ (HY.out.grow (HW.out.trans (hbd.mono HW.out.size))) (hM.out.grow (HW.out.trans (hbd.mono HW.out.size)))).mono ?_
    rw [HCI.out]
    rintro e w1 ⟨rfl,hb⟩
    have HB2:=Ld (hbd.trans (hb.mono (show wr.heap.size ≤ _ from hbd.size)))
    clear hbd hb
    refine hK.out _ _ HB2.out (fun _ => ?_)
    clear hK K
    try simp only [Act.put,List.setIfInBounds_toArray,List.set_cons_zero,List.set_cons_succ]
    apply sched_take;(exact rfl);rfl;(intro W hW;go_simp;(try with_reducible rfl));simp only [Act.put,List.setIfInBounds_toArray,List.set_cons_zero,List.set_cons_succ]
    refine sched_done ?_
    obtain ⟨⟨q0,q1,q2⟩,⟨a0,a1,a2,a3,a4,a5,a6,a7,a8⟩,_,q3,_⟩:=HBY.out _ HB2.out
    obtain ⟨p0,p1,p2,p3,p4,p5⟩:=HCE.out _ HB2.out
    have HG2:=Ld ((HB2.out.block V1.heap.size hgl).trans hG.out)
    have HBN:=Ld (hB.out.trans (HB2.out.mono HZ.out))
    have HGL:=Ld hgl
    clear hgl hG
    by_cases hk0 : k = 0
    ·have e0 : ((k : Int) == 0) = true:=by simp [hk0]
     have HF0:=Ld (HFD.out.trans (if_pos (.inl hk0))).symm
     clear hk0
     go_upto_region 9 with fail
     go_wp2_with (refine wpList_store_row rfl 54 (.tmp 9) (.tmp 70) rfl V1.heap.size (c6 yk yb yn yf yt yA yl.length yc) rfl rfl 54 _ HG2.out (by kernel_rfl) rfl (one6 _ _ _ _ _ _ _ _) ?_)
     exact ⟨⟨k + 1,VI.mk yk yb yn yf yt yA yc yl,by omega,by go_num,Ld (HF0.out),HY,HYB,Ld (setRow_block _ _ _ _ _ _ HG2.out),Ld (below_setRow HBN.out HZ1.out _)⟩,by simp [intOf];omega⟩
    ·have e0 : ((k : Int) == 0) = false:=by simp [hk0]
     by_cases hc : ci < 0
     ·have HF0:=Ld (HFD.out.trans (if_pos (.inr (by simpa using hc)))).symm
      clear hk0
      go_upto_region 9 with fail
      go_wp2_with (refine wpList_store_row rfl 54 (.tmp 9) (.tmp 70) rfl V1.heap.size (c6 yk yb yn yf yt yA yl.length yc) rfl rfl 54 _ HG2.out (by kernel_rfl) rfl (one6 _ _ _ _ _ _ _ _) ?_)
      exact ⟨⟨k + 1,VI.mk yk yb yn yf yt yA yc yl,by omega,by go_num,Ld (HF0.out),HY,HYB,Ld (setRow_block _ _ _ _ _ _ HG2.out),Ld (below_setRow HBN.out HZ1.out _)⟩,by simp [intOf];omega⟩
     ·have HF0:=Ld (HFD.out.trans (if_neg (by rintro (h | h);exact hk0 h;exact hc (by simpa using h)))).symm
      clear hk0
      go_wp2
      exact ⟨⟨k + 1,VI.mk mk mb mn mf mt mA mc ml,by omega,by go_num,Ld (HF0.out),hM,hMB,HG2,HBN⟩,by simp [intOf];omega⟩
   ·have HMF:=Ld (show m = endV (fun i => decide (i < 0)) l by rw [hm.out,List.take_of_length_le (by omega)])
    have HFO:=Ld (show FoldOk kd 2 (VI.dataL l) m.data 0 by rw [HMF.out,endV_data];exact fok_least)
    have HGB:=Ld (box6 hG.out)
    clear hm HMF
    rcases m with ⟨mk,mb,mn,mf,mt,mA,mc,ml⟩
    simp only [VI.k,VI.b,VI.n,VI.f,VI.t,VI.A,VI.c,VI.l] at HGB
    obtain ⟨m0,m1,m2,m3,m4,m5⟩:=HGB.out
    go_wp2_with (refine wpList_store_row rfl 54 (.tmp 6) (.tmp 71) rfl (w.heap.size + 2) (c6 mk mb mn mf mt mA ml.length mc) rfl rfl 54 _ HROW.out (by kernel_rfl) rfl (one6 _ _ _ _ _ _ _ _) ?_)
    refine bodyPost_ret (results_ct rfl _ _ (w.heap.size + 2) 54 _ (0,0) _ rfl (setRow_block _ _ _ _ _ _ HROW.out) Tryz.underlying54 rfl (by kernel_rfl)) rfl ⟨(VI.mk mk mb mn mf mt mA mc ml),0,rfl,HFO.out,hM.out.grow (below_setRow HW.out (by omega) _),hMB.out,below_setRow HW.out (by omega) _⟩
 ·skip
  go_wp2
  go_loopw [10] (fun i wr => ∃ (k : Nat) (m : VI),k ≤ l.length ∧ i = .int .i64 k ∧ Hid (m = endV (fun i => decide (0 < i)) (l.take k)) ∧ Hid (RdV w m) ∧ Hid (BlkV P m) ∧ Hid (wr.heap[V1.heap.size]? = some (.cells (c6 m.k m.b m.n m.f m.t m.A m.l.length m.c) 54 (0,0))) ∧ Hid (Below (w.heap.size + 3) W0 wr)) (fun i _ => l.length - (intOf i).toNat)
  case atStart => exact ⟨0,nullV,Nat.zero_le _,rfl,Ld rfl,Ld (RdV.leaf _ (by decide) (by decide) (by decide)),Ld .leaf,Ld (heap_alloc_new V1 _),Ld (HB1.out.alloc HZ1.out _)⟩
  case round =>
   clear q0 q1 q2 a0 a1 a2 a3 a4 a5 a6 a7 a8 q3 HROW HW
   obtain ⟨k,m,hk,rfl,hm,hM,hMB,hG,hB⟩:=hrel
   obtain ⟨⟨q0,q1,q2⟩,⟨a0,a1,a2,a3,a4,a5,a6,a7,a8⟩,hrow,q3,q4⟩:=HBX.out _ hB.out
   have HROW:=Ld hrow
   have HW:=Ld q4
   have HZ:=Ld (show w.heap.size + 3 ≤ wr.heap.size from q3)
   clear q4 hrow
   have hgl : V1.heap.size < wr.heap.size:=(Array.getElem?_eq_some_iff.1 hG.out).1
   by_cases hlt : k < l.length
   ·have HLr:=Ld (HL.out.below HW.out)
    obtain ⟨ab,ao,rfl⟩ : ∃ ab ao,B = some ⟨ab,ao,none⟩:=by obtain ⟨b,o,e,_⟩:=HLr.out.rd.2 (by omega);exact ⟨b,o,e⟩
    have HCE:=Ld (fun W (h : Below wr.heap.size wr W) => item_at (HLr.out.below h).rd hlt)
    have HFD:=Ld (endV_take (fun i => decide (0 < i)) l k hlt _ rfl)
    rw [← hm.out] at HFD
    have HY:=Ld (HL.out.hx _ (List.getElem_mem hlt))
    have HYB:=Ld (HP.out _ (List.getElem_mem hlt))
    obtain ⟨y,hy⟩ : ∃ y,l[k] = y:=⟨_,rfl⟩
    simp only [hy] at HCE HFD HY HYB
    clear hy hm
    rcases y with ⟨yk,yb,yn,yf,yt,yA,yc,yl⟩
    rcases m with ⟨mk,mb,mn,mf,mt,mA,mc,ml⟩
    simp only [VI.k,VI.b,VI.n,VI.f,VI.t,VI.A,VI.c,VI.l] at HCE hG
    have HMC:=Ld (fun W (h : Below wr.heap.size wr W) => box6 ((h.block V1.heap.size hgl).trans hG.out))
    obtain ⟨ci,hci⟩ : ∃ ci,cmpI (VI.mk yk yb yn yf yt yA yc yl).data (VI.mk mk mb mn mf mt mA mc ml).data = ci:=⟨_,rfl⟩
    have HCI:=Ld hci
    rw [HCI.out] at HFD
    clear hci
    go_upto_region 7 with fail
    have HBY:=Ld (fun W (h : Below wr.heap.size wr W) => HBX.out W (hB.out.trans (h.mono HZ.out)))
    clear q0 q1 q2 a0 a1 a2 a3 a4 a5 a6 a7 a8 q3
    refine wp_region_sched (S:=fun W => Below wr.heap.size wr W) [(0,true),(1,true),(2,true),(3,true),(4,true),(5,false),(6,true)] (by kernel_rfl) (by kernel_rfl) (by kernel_rfl) (fun _ _ d _ _ h => by cases d <;> exact h) (Below.refl _ _).drew ?_
    repeat (apply sched_take;(exact rfl);rfl;(intro W hW;obtain ⟨p0,p1,p2,p3,p4,p5⟩:=HCE.out W hW;obtain ⟨m0,m1,m2,m3,m4,m5⟩:=HMC.out W hW;go_simp;(try with_reducible rfl));simp only [Act.put,List.setIfInBounds_toArray,List.set_cons_zero,List.set_cons_succ])
    apply sched_run;(exact rfl);rfl;intro K hK;go_simp
    have hbd:=(Below.refl wr.heap.size wr).drew
    refine (refCompare_c (.mk yk yb yn yf yt yA yc yl) (.mk mk mb mn mf mt mA mc ml) _ (HY.out.grow (HW.out.trans (hbd.mono HW.out.size))) (hM.out.grow (HW.out.trans (hbd.mono HW.out.size)))).mono ?_
    rw [HCI.out]
    rintro e w1 ⟨rfl,hb⟩
    have HB2:=Ld (hbd.trans (hb.mono (show wr.heap.size ≤ _ from hbd.size)))
    clear hbd hb
    refine hK.out _ _ HB2.out (fun _ => ?_)
    clear hK K
    try simp only [Act.put,List.setIfInBounds_toArray,List.set_cons_zero,List.set_cons_succ]
    apply sched_take;(exact rfl);rfl;(intro W hW;go_simp;(try with_reducible rfl));simp only [Act.put,List.setIfInBounds_toArray,List.set_cons_zero,List.set_cons_succ]
    refine sched_done ?_
    obtain ⟨⟨q0,q1,q2⟩,⟨a0,a1,a2,a3,a4,a5,a6,a7,a8⟩,_,q3,_⟩:=HBY.out _ HB2.out
    obtain ⟨p0,p1,p2,p3,p4,p5⟩:=HCE.out _ HB2.out
    have HG2:=Ld ((HB2.out.block V1.heap.size hgl).trans hG.out)
    have HBN:=Ld (hB.out.trans (HB2.out.mono HZ.out))
    have HGL:=Ld hgl
    clear hgl hG
    by_cases hk0 : k = 0
    ·have e0 : ((k : Int) == 0) = true:=by simp [hk0]
     have HF0:=Ld (HFD.out.trans (if_pos (.inl hk0))).symm
     clear hk0
     go_upto_region 9 with fail
     go_wp2_with (refine wpList_store_row rfl 54 (.tmp 9) (.tmp 70) rfl V1.heap.size (c6 yk yb yn yf yt yA yl.length yc) rfl rfl 54 _ HG2.out (by kernel_rfl) rfl (one6 _ _ _ _ _ _ _ _) ?_)
     exact ⟨⟨k + 1,VI.mk yk yb yn yf yt yA yc yl,by omega,by go_num,Ld (HF0.out),HY,HYB,Ld (setRow_block _ _ _ _ _ _ HG2.out),Ld (below_setRow HBN.out HZ1.out _)⟩,by simp [intOf];omega⟩
    ·have e0 : ((k : Int) == 0) = false:=by simp [hk0]
     by_cases hc : 0 < ci
     ·have HF0:=Ld (HFD.out.trans (if_pos (.inr (by simpa using hc)))).symm
      clear hk0
      go_upto_region 9 with fail
      go_wp2_with (refine wpList_store_row rfl 54 (.tmp 9) (.tmp 70) rfl V1.heap.size (c6 yk yb yn yf yt yA yl.length yc) rfl rfl 54 _ HG2.out (by kernel_rfl) rfl (one6 _ _ _ _ _ _ _ _) ?_)
      exact ⟨⟨k + 1,VI.mk yk yb yn yf yt yA yc yl,by omega,by go_num,Ld (HF0.out),HY,HYB,Ld (setRow_block _ _ _ _ _ _ HG2.out),Ld (below_setRow HBN.out HZ1.out _)⟩,by simp [intOf];omega⟩
     ·have HF0:=Ld (HFD.out.trans (if_neg (by rintro (h | h);exact hk0 h;exact hc (by simpa using h)))).symm
      clear hk0
      go_wp2
      exact ⟨⟨k + 1,VI.mk mk mb mn mf mt mA mc ml,by omega,by go_num,Ld (HF0.out),hM,hMB,HG2,HBN⟩,by simp [intOf];omega⟩
   ·have HMF:=Ld (show m = endV (fun i => decide (0 < i)) l by rw [hm.out,List.take_of_length_le (by omega)])
    have HFO:=Ld (show FoldOk kd 3 (VI.dataL l) m.data 0 by rw [HMF.out,endV_data];exact fok_most)
    have HGB:=Ld (box6 hG.out)
    clear hm HMF
    rcases m with ⟨mk,mb,mn,mf,mt,mA,mc,ml⟩
    simp only [VI.k,VI.b,VI.n,VI.f,VI.t,VI.A,VI.c,VI.l] at HGB
    obtain ⟨m0,m1,m2,m3,m4,m5⟩:=HGB.out
    go_wp2_with (refine wpList_store_row rfl 54 (.tmp 6) (.tmp 71) rfl (w.heap.size + 2) (c6 mk mb mn mf mt mA ml.length mc) rfl rfl 54 _ HROW.out (by kernel_rfl) rfl (one6 _ _ _ _ _ _ _ _) ?_)
    refine bodyPost_ret (results_ct rfl _ _ (w.heap.size + 2) 54 _ (0,0) _ rfl (setRow_block _ _ _ _ _ _ HROW.out) Tryz.underlying54 rfl (by kernel_rfl)) rfl ⟨(VI.mk mk mb mn mf mt mA mc ml),0,rfl,HFO.out,hM.out.grow (below_setRow HW.out (by omega) _),hMB.out,below_setRow HW.out (by omega) _⟩
end
section
open Go.RowKit
section
variable {pg wd : Int} {t : TabD} {q : QryV}
theorem rowR_fit {kb vb : List UInt8} {n : Nat} {r : List ItemD} (h : rowR pg wd t kb vb = (some r,n)) : fitL t.cols r = true:=by
 unfold rowR at h
 split at h
 ·injection h with h1;cases h1
 ·next hc =>
  split at h
  ·split at h
   ·injection h with h1;cases h1
   ·split at h
    ·injection h with h1;cases h1
    ·next h3 =>
     injection h with h1 h2
     injection h1 with h1
     have h4 : (valR pg wd t r).2 = 0:=by rw [← h1];apply Classical.byContradiction;intro hh;exact h3 (.inr (.inl hh))
     unfold valR at h4
     rw [if_neg hc] at h4
     split at h4
     ·cases h4
     ·next h5 => apply Classical.byContradiction;intro hh;exact h5 (.inr (by simpa using hh))
  ·injection h with h1;cases h1
theorem fitL_kind (cs : List ColD) (l : List ItemD) (h : fitL cs l = true) (a : Nat) (h1 : a < cs.length) (h2 : a < l.length) : l[a].k = cs[a].kind ∨ l[a].k = 1:=by
 induction cs generalizing l a with
 | nil => simp at h1
 | cons c cs ih =>
   cases l with
   | nil => simp at h2
   | cons x l =>
     rw [fitL,Bool.and_eq_true] at h
     cases a with
     | zero =>
       have h3:=h.1
       simp only [fitX,Bool.and_eq_true,Bool.or_eq_true,decide_eq_true_eq] at h3
       rcases h3.2 with h4 | h4
       ·exact .inl h4
       ·exact .inr h4.1
     | succ a => exact ih l h.2 a (by simpa using h1) (by simpa using h2)
theorem rowsA_fit {lo hi : List UInt8} {acc rows : List (List ItemD)} {P : List (ByteArray × ByteArray)} {n : Nat} (h : rowsA pg wd t lo hi acc P = (some rows,n)) (ha : ∀ r ∈ acc,fitL t.cols r = true) : ∀ r ∈ rows,fitL t.cols r = true:=by
 induction P generalizing acc with
 | nil => rw [rowsA] at h;injection h with h1 _;injection h1 with h1;subst h1;exact ha
 | cons p P ih =>
   rw [rowsA] at h
   split at h
   ·exact ih h ha
   ·cases hr : rowR pg wd t p.1.data.toList p.2.data.toList with
    | mk o m =>
      rw [hr] at h
      cases o with
      | none => injection h with h1;cases h1
      | some r =>
        refine ih h fun x hx => ?_
        rcases List.mem_append.1 hx with hx | hx
        ·exact ha x hx
        ·rw [List.mem_singleton.1 hx];exact rowR_fit hr
theorem kept_mem {rows : List (List ItemD)} {r : List ItemD} (h : r ∈ keptD t q (if q.down = true then rows.reverse else rows)) : r ∈ rows:=by
 have h1 : r ∈ (if q.down = true then rows.reverse else rows):=by
  unfold keptD at h
  split at h
  ·exact (List.mem_filter.1 (List.mem_of_mem_take h)).1
  ·exact (List.mem_filter.1 h).1
 split at h1
 ·exact List.mem_reverse.1 h1
 ·exact h1
theorem items_kind {rows : List (List ItemD)} {a : Nat} (h : ∀ r ∈ rows,fitL t.cols r = true ∧ r.length = t.cols.length) (ha : a < t.cols.length) : ∀ y ∈ itemsD a rows,y.k = kindAt t a:=by
 intro y hy
 obtain ⟨h1,h2⟩:=List.mem_filter.1 hy
 obtain ⟨r,hr,rfl⟩:=List.mem_map.1 h1
 obtain ⟨hf,hl⟩:=h r hr
 have hal : a < r.length:=by omega
 rw [List.getD_eq_getElem?_getD,List.getElem?_eq_getElem hal] at h2 ⊢
 have hk : kindAt t a = t.cols[a].kind:=by rw [kindAt,Int.toNat_natCast,List.getElem?_eq_getElem ha]
 rw [hk]
 rcases fitL_kind t.cols r hf a ha hal with h3 | h3
 ·exact h3
 ·exact absurd h3 (by simpa using h2)
end
end
section
open Go.RowKit
section
variable {pg wd : Int} {t : TabD} {q : QryV} {P : List (ByteArray × ByteArray)}
theorem rowsA_nz {lo hi : List UInt8} {acc : List (List ItemD)} {P : List (ByteArray × ByteArray)} {n : Nat} (h : rowsA pg wd t lo hi acc P = (none,n)) : n ≠ 0:=by
 induction P generalizing acc with
 | nil => rw [rowsA] at h;injection h with h1;cases h1
 | cons p P ih =>
   rw [rowsA] at h
   split at h
   ·exact ih h
   ·cases hr : rowR pg wd t p.1.data.toList p.2.data.toList with
    | mk o m =>
      rw [hr] at h
      cases o with
      | none => injection h with _ h2;subst h2;exact rowR_err hr
      | some r => exact ih h
theorem rows_bad {rows : List (List ItemD)} {n : Nat} (h : RowsOk pg wd t q P rows n) (hn : n ≠ 0) : PickOk pg wd t q P [] n:=by
 unfold RowsOk at h
 unfold PickOk
 split at h
 ·next h1 => rw [if_pos h1];exact ⟨rfl,h.2⟩
 ·next h1 =>
  rw [if_neg h1]
  split at h
  ·next h2 => rw [h2];exact ⟨rfl,h.2⟩
  ·exact absurd h.1 hn
theorem rows_pick {rows out : List (List ItemD)} {m : Nat} (h : RowsOk pg wd t q P rows 0) (hc : ComeOk t q rows out m) : PickOk pg wd t q P out m:=by
 unfold RowsOk at h
 unfold PickOk
 split at h
 ·next h1 => exact absurd h.2.symm h1
 ·next h1 =>
  rw [if_neg h1]
  split at h
  ·next h2 => exact absurd h.2.symm (rowsA_nz h2)
  ·next h2 => rw [h2];rw [h.2] at hc;exact hc
theorem rows_chk {rows : List (List ItemD)} (h : RowsOk pg wd t q P rows 0) : chkQ pg wd t q = 0:=by
 unfold RowsOk at h
 split at h
 ·next h1 => exact absurd h.2.symm h1
 ·next h1 => exact spanR_ok (by omega)
theorem rows_fit {rows : List (List ItemD)} (h : RowsOk pg wd t q P rows 0) : ∀ r ∈ rows,fitL t.cols r = true:=by
 unfold RowsOk at h
 split at h
 ·next h1 => exact absurd h.2.symm h1
 ·split at h
  ·next h2 => exact absurd h.2.symm (rowsA_nz h2)
  ·next h2 =>
   intro r hr
   rw [h.2] at hr
   exact rowsA_fit h2 (by simp) r (kept_mem hr)
end
end
end Go.Proofs.YtonjgedhmmnolaaGreatDoor
