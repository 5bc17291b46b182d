import Derived.Test.YtonjgedhmmnolaaGreatDoorZZ7
import Derived.Test.YtonjgedhmmnolaaGreatDoorZ12
import Derived.Test.YtonjgedhmmnolaaGreatDoorZ24
import Derived.Test.YtonjgedhmmnolaaGreatDoorZ13
namespace Go.Proofs.YtonjgedhmmnolaaGreatDoor
section
open Go.RowKit
set_option maxHeartbeats 2000000
set_option maxRecDepth 100000
theorem refHolds_c [Inhabited Thr] (A : Option Addr) (c : Nat) (t : TabD) (q : QryV) (B : Option Addr) (d : Nat) (l : List VI) (w : World) (hR : RdT w A c t) (hQ : RdQ w q) (hL : RdI w B d l) (hf : ∀ x ∈ q.wh,0 ≤ findC t x.col ∧ findC t x.col < l.length) :
 Calls Tryz.prog 81 #[vT t A c,q.val,.slice B l.length d] w fun e w' => e = .returned (.bool (keepD t q.wh (VI.dataL l))) ∧ Below w.heap.size w w':=by
 have HR:=Ld hR
 have HQ:=Ld hQ
 have HL:=Ld hL
 have HF:=Ld hf
 have hwb:=hQ.wb
 have hcl:=hR.hb
 have hlb:=hL.hb
 rcases t with ⟨tn,cols,keys⟩
 rcases q with ⟨qt,fr,tt,wh,qc,qd,ql,qf,qo,AF,cF,AT,cT,AW,cW,AC,cC⟩
 simp only [QryV.val,QryV.cells] at hwb hcl HF ⊢
 obtain ⟨W0,hW0⟩ : ∃ W0,(w.alloc (.cells #[.string tn,.slice A cols.length c,.int .i64 keys] 27)).alloc (.cells #[.string qt,.slice AF fr.length cF,.slice AT tt.length cT,.slice AW wh.length cW,.slice AC qc.length cC,.bool qd,.int .i64 ql,.int .u8 qf,.string qo] 33) = W0:=⟨_,rfl⟩
 have HW0:=Ld hW0
 have HBX:=Ld (fun W (h : Below (w.heap.size + 2) W0 W) => boxes_tq (hW0 ▸ h))
 clear hR hQ hL hf hW0
 obtain ⟨RES,hRES⟩ : ∃ b,keepD ⟨tn,cols,keys⟩ wh (VI.dataL l) = b:=⟨_,rfl⟩
 have HRES:=Ld (hRES.symm.trans (show keepD ⟨tn,cols,keys⟩ wh (VI.dataL l) = wh.all (fun x => testD ⟨tn,cols,keys⟩ x (VI.dataL l)) from rfl))
 rw [hRES]
 clear hRES
 go_enter Tryz.func81,Tryz.ntmps81
 go_upto_region 1 with fail
 rw [HW0.out]
 go_wp2
 go_loopw [7] (fun i wr => ∃ k : Nat,k ≤ wh.length ∧ i = .int .i64 k ∧ Hid (RES = (wh.drop k).all (fun x => testD ⟨tn,cols,keys⟩ x (VI.dataL l))) ∧ Hid (Below (w.heap.size + 2) W0 wr)) (fun i _ => wh.length - (intOf i).toNat)
 case atStart => exact ⟨0,Nat.zero_le _,rfl,HRES,Ld (Below.refl _ _)⟩
 case round =>
  obtain ⟨k,hk,rfl,ha,hB⟩:=hrel
  obtain ⟨⟨q0,q1,q2⟩,⟨a0,a1,a2,a3,a4,a5,a6,a7,a8⟩,q3,q4⟩:=HBX.out _ hB.out
  have HW:=Ld q4
  have HZ:=Ld (show w.heap.size + 2 ≤ wr.heap.size from q3)
  clear q4
  have HQr:=Ld (HQ.out.below HW.out)
  by_cases hlt : k < wh.length
  ·obtain ⟨ab,ao,rfl⟩ : ∃ ab ao,AW = some ⟨ab,ao,none⟩:=by obtain ⟨b,o,e,_⟩:=HQr.out.wh.2 (show 0 < wh.length by omega);exact ⟨b,o,e⟩
   obtain ⟨p0,p1,p2,p3,p4,p5,p6,p7⟩:=cond_at HQr.out.wh hlt
   have HAD:=Ld (ha.out.trans (all_drop wh _ k hlt))
   have HX:=Ld (HQr.out.wx _ (List.getElem_mem hlt))
   have HFX:=Ld (HF.out _ (List.getElem_mem hlt))
   simp only at p0 p1 p2 p3 p4 p5 p6 p7 HX HFX
   obtain ⟨x,hx⟩ : ∃ x,wh[k] = x:=⟨_,rfl⟩
   simp only [hx] at p0 p1 p2 p3 p4 p5 p6 p7 HX HAD HFX
   clear hx
   rcases x with ⟨xc,xk,⟨yk,yb,yn,yf,yt,yA,yc,yl⟩⟩
   simp only [VI.k,VI.b,VI.n,VI.f,VI.t,VI.A,VI.c,VI.l] at p0 p1 p2 p3 p4 p5 p6 p7
   simp only at HFX
   obtain ⟨fi,hfi⟩ : ∃ fi : Nat,findC ⟨tn,cols,keys⟩ xc = fi:=⟨(findC ⟨tn,cols,keys⟩ xc).toNat,by have:=HFX.out;omega⟩
   have hfl : fi < l.length:=by have:=HFX.out.2;omega
   have HFI:=Ld hfi
   obtain ⟨ob,oo,rfl⟩ : ∃ ob oo,B = some ⟨ob,oo,none⟩:=by obtain ⟨b,o,e,_⟩:=HL.out.rd.2 (show 0 < l.length by omega);exact ⟨b,o,e⟩
   have HTE:=Ld (show testD ⟨tn,cols,keys⟩ ⟨xc,xk,.mk yk yb yn yf yt yA yc yl⟩ (VI.dataL l) = holdsP xk (cmpI l[fi].data (VI.mk yk yb yn yf yt yA yc yl).data) by
    have hd:=data_at l fi hfl
    have hl : fi < (VI.dataL l).length:=by rw [dataL_eq,List.length_map];exact hfl
    rw [testD,hfi,Int.toNat_natCast,List.getD_eq_getElem?_getD,List.getElem?_eq_getElem hl,hd];rfl)
   have HIT:=Ld (fun W (h : Below w.heap.size w W) => item_at (HL.out.below h).rd hfl)
   have HIX:=Ld (HL.out.hx _ (List.getElem_mem hfl))
   obtain ⟨y0,hy0⟩ : ∃ y,l[fi] = y:=⟨_,rfl⟩
   simp only [hy0] at HTE HIT HIX
   clear hy0 hfi
   obtain ⟨o,ho⟩ : ∃ o,cmpI y0.data (VI.mk yk yb yn yf yt yA yc yl).data = o:=⟨_,rfl⟩
   have HO:=Ld ho
   rw [HO.out] at HTE
   rw [HTE.out] at HAD
   clear ho HTE
   rcases y0 with ⟨zk,zb,zn,zf,zt,zA,zc,zl⟩
   simp only [VI.k,VI.b,VI.n,VI.f,VI.t,VI.A,VI.c,VI.l] at HIT
   go_upto_region 5 with fail
   have hc0:=heap_alloc_new wr (.cells (c8 xc xk yk yb yn yf yt yA yl.length yc) 69)
   have ha0:=(Below.refl wr.heap.size wr).alloc (Nat.le_refl _) (.cells (c8 xc xk yk yb yn yf yt yA yl.length yc) 69)
   have hs0 : (wr.alloc (.cells (c8 xc xk yk yb yn yf yt yA yl.length yc) 69)).heap.size = wr.heap.size + 1:=by simp
   obtain ⟨V0,hV0⟩ : ∃ V0,wr.alloc (.cells (c8 xc xk yk yb yn yf yt yA yl.length yc) 69) = V0:=⟨_,rfl⟩
   rw [show wr.alloc (.cells #[.string xc,.int .u8 xk,.int .u8 yk,.bool yb,.int .i64 yn,.float .f64 yf,.string yt,.slice yA yl.length yc] 69) = V0 from hV0]
   rw [hV0] at hc0 ha0 hs0
   clear hV0 p0 p1 p2 p3 p4 p5 p6 p7 q0 q1 q2 a0 a1 a2 a3 a4 a5 a6 a7 a8 q3
   have HA0:=Ld ha0
   have HS0:=Ld hs0
   have HC8:=Ld (fun W (h : Below (wr.heap.size + 1) V0 W) => box8 ((h.block wr.heap.size (by omega)).trans hc0))
   clear hc0 ha0 hs0
   have HLOW:=Ld (fun W (h : Below (wr.heap.size + 1) V0 W) => HA0.out.trans (h.mono (by omega)))
   have HBY:=Ld (fun W (h : Below (wr.heap.size + 1) V0 W) => HBX.out W (hB.out.trans ((HLOW.out W h).mono HZ.out)))
   have HFIN:=Ld (fun W (h : Below (wr.heap.size + 1) V0 W) => HW.out.trans ((HLOW.out W h).mono HW.out.size))
   have HNXT:=Ld (fun W (h : Below (wr.heap.size + 1) V0 W) => hB.out.trans ((HLOW.out W h).mono HZ.out))
   have HIT:=Ld (fun W (h : Below (wr.heap.size + 1) V0 W) => HIT.out W (HFIN.out W h))
   have HB0:=Ld (Below.refl (wr.heap.size + 1) V0)
   refine wp_region_sched (S:=fun W => Below (wr.heap.size + 1) V0 W) [(0,true),(1,true),(2,true),(3,true),(7,true),(8,true),(4,false),(5,true),(6,true),(9,false),(10,true)] (by kernel_rfl) (by kernel_rfl) (by kernel_rfl) (fun _ _ d _ _ h => by cases d <;> exact h) HB0.out.drew ?_
   repeat (apply sched_take;(exact rfl);rfl;(intro W hW;obtain ⟨p0,p1,p2,p3,p4,p5,p6,p7⟩:=HC8.out W hW;obtain ⟨j0,j1,j2,j3,j4,j5⟩:=HIT.out W hW;obtain ⟨⟨q0,q1,q2⟩,_,q3,_⟩:=HBY.out W hW;go_simp;(try with_reducible rfl));simp only [Act.put,List.setIfInBounds_toArray,List.set_cons_zero,List.set_cons_succ])
   apply sched_run;(exact rfl);rfl;intro K hK;go_simp
   have hbd:=HB0.out.drew
   refine (find_c A c ⟨tn,cols,keys⟩ xc _ (HR.out.below (HFIN.out _ hbd))).mono ?_
   rw [HFI.out]
   rintro e V1 ⟨rfl,hb⟩
   have HB1:=Ld (hbd.trans (hb.mono (show wr.heap.size + 1 ≤ V0.drew.heap.size by rw [show V0.drew.heap.size = V0.heap.size from rfl,HS0.out];exact Nat.le_refl _)))
   clear hbd hb
   refine hK.out _ _ HB1.out (fun _ => ?_)
   clear hK K
   try simp only [Act.put,List.setIfInBounds_toArray,List.set_cons_zero,List.set_cons_succ]
   repeat (apply sched_take;(exact rfl);rfl;(intro W hW;obtain ⟨p0,p1,p2,p3,p4,p5,p6,p7⟩:=HC8.out W hW;obtain ⟨j0,j1,j2,j3,j4,j5⟩:=HIT.out W hW;obtain ⟨⟨q0,q1,q2⟩,_,q3,_⟩:=HBY.out W hW;go_simp;(try with_reducible rfl));simp only [Act.put,List.setIfInBounds_toArray,List.set_cons_zero,List.set_cons_succ])
   apply sched_run;(exact rfl);rfl;intro K hK;go_simp
   have HS1:=Ld (HB1.out.size)
   refine (refCompare_c (VI.mk zk zb zn zf zt zA zc zl) (VI.mk yk yb yn yf yt yA yc yl) _ (HIX.out.grow (HFIN.out _ HB1.out)) (HX.out.1.grow (HLOW.out _ HB1.out))).mono ?_
   rw [HO.out]
   rintro e V2 ⟨rfl,hb⟩
   have HB2:=Ld (HB1.out.trans (hb.mono (show wr.heap.size + 1 ≤ _ by have:=HS1.out;have:=HS0.out;omega)))
   clear hb
   refine hK.out _ _ HB2.out (fun _ => ?_)
   clear hK K
   try simp only [Act.put,List.setIfInBounds_toArray,List.set_cons_zero,List.set_cons_succ]
   repeat (apply sched_take;(exact rfl);rfl;(intro W hW;obtain ⟨p0,p1,p2,p3,p4,p5,p6,p7⟩:=HC8.out W hW;obtain ⟨j0,j1,j2,j3,j4,j5⟩:=HIT.out W hW;obtain ⟨⟨q0,q1,q2⟩,_,q3,_⟩:=HBY.out W hW;go_simp;(try with_reducible rfl));simp only [Act.put,List.setIfInBounds_toArray,List.set_cons_zero,List.set_cons_succ])
   refine sched_done ?_
   obtain ⟨p0,p1,p2,p3,p4,p5,p6,p7⟩:=HC8.out _ HB2.out
   clear p0 p2 p3 p4 p5 p6 p7 HIT HC8 HBY
   have HK:=Ld (show xk = 1 ∨ xk = 2 ∨ xk = 3 ∨ xk = 4 ∨ xk = 5 ∨ xk = 6 ∨ (xk ≠ 1 ∧ xk ≠ 2 ∧ xk ≠ 3 ∧ xk ≠ 4 ∧ xk ≠ 5 ∧ xk ≠ 6) by omega)
   have HSG:=Ld (show o < 0 ∨ o = 0 ∨ 0 < o by omega)
   clear HX HFX
   rcases HK.out with rfl | rfl | rfl | rfl | rfl | rfl | ⟨k1,k2,k3,k4,k5,k6⟩
   all_goals clear HK
   all_goals rcases HSG.out with h | h | h
   all_goals clear HSG
   ·have HV:=Ld (show holdsP 1 o = false by simp [holdsP];omega)
    have e0 : (o == 0) = false:=by simp;omega
    have e3 : (o != 0) = true:=by simp;omega
    have e4 : o ≤ 0:=by omega
    have e5 : ¬ 0 ≤ o:=by omega
    have e1 : o < 0:=h
    have e2 : ¬ 0 < o:=by omega
    clear h
    rw [HV.out] at HAD
    go_wp2
    go_ret
    exact ⟨ret_eq (by rw [HAD.out];rfl),HFIN.out _ HB2.out⟩
   ·have HV:=Ld (show holdsP 1 o = true by simp [holdsP];omega)
    have e0 : (o == 0) = true:=by simp;omega
    have e3 : (o != 0) = false:=by simp;omega
    have e4 : o ≤ 0:=by omega
    have e5 : 0 ≤ o:=by omega
    have e1 : ¬ o < 0:=by omega
    have e2 : ¬ 0 < o:=by omega
    clear h
    rw [HV.out] at HAD
    go_wp2
    exact ⟨⟨k + 1,by omega,by go_num,Ld (HAD.out.trans (Bool.true_and _)),Ld (HNXT.out _ HB2.out)⟩,by simp [intOf];omega⟩
   ·have HV:=Ld (show holdsP 1 o = false by simp [holdsP];omega)
    have e0 : (o == 0) = false:=by simp;omega
    have e3 : (o != 0) = true:=by simp;omega
    have e4 : ¬ o ≤ 0:=by omega
    have e5 : 0 ≤ o:=by omega
    have e1 : ¬ o < 0:=by omega
    have e2 : 0 < o:=h
    clear h
    rw [HV.out] at HAD
    go_wp2
    go_ret
    exact ⟨ret_eq (by rw [HAD.out];rfl),HFIN.out _ HB2.out⟩
   ·have HV:=Ld (show holdsP 2 o = true by simp [holdsP];omega)
    have e0 : (o == 0) = false:=by simp;omega
    have e3 : (o != 0) = true:=by simp;omega
    have e4 : o ≤ 0:=by omega
    have e5 : ¬ 0 ≤ o:=by omega
    have e1 : o < 0:=h
    have e2 : ¬ 0 < o:=by omega
    clear h
    rw [HV.out] at HAD
    go_wp2
    exact ⟨⟨k + 1,by omega,by go_num,Ld (HAD.out.trans (Bool.true_and _)),Ld (HNXT.out _ HB2.out)⟩,by simp [intOf];omega⟩
   ·have HV:=Ld (show holdsP 2 o = false by simp [holdsP];omega)
    have e0 : (o == 0) = true:=by simp;omega
    have e3 : (o != 0) = false:=by simp;omega
    have e4 : o ≤ 0:=by omega
    have e5 : 0 ≤ o:=by omega
    have e1 : ¬ o < 0:=by omega
    have e2 : ¬ 0 < o:=by omega
    clear h
    rw [HV.out] at HAD
    go_wp2
    go_ret
    exact ⟨ret_eq (by rw [HAD.out];rfl),HFIN.out _ HB2.out⟩
   ·have HV:=Ld (show holdsP 2 o = true by simp [holdsP];omega)
    have e0 : (o == 0) = false:=by simp;omega
    have e3 : (o != 0) = true:=by simp;omega
    have e4 : ¬ o ≤ 0:=by omega
    have e5 : 0 ≤ o:=by omega
    have e1 : ¬ o < 0:=by omega
    have e2 : 0 < o:=h
    clear h
    rw [HV.out] at HAD
    go_wp2
    exact ⟨⟨k + 1,by omega,by go_num,Ld (HAD.out.trans (Bool.true_and _)),Ld (HNXT.out _ HB2.out)⟩,by simp [intOf];omega⟩
   ·have HV:=Ld (show holdsP 3 o = true by simp [holdsP];omega)
    have e0 : (o == 0) = false:=by simp;omega
    have e3 : (o != 0) = true:=by simp;omega
    have e4 : o ≤ 0:=by omega
    have e5 : ¬ 0 ≤ o:=by omega
    have e1 : o < 0:=h
    have e2 : ¬ 0 < o:=by omega
    clear h
    rw [HV.out] at HAD
    go_wp2
    exact ⟨⟨k + 1,by omega,by go_num,Ld (HAD.out.trans (Bool.true_and _)),Ld (HNXT.out _ HB2.out)⟩,by simp [intOf];omega⟩
   ·have HV:=Ld (show holdsP 3 o = false by simp [holdsP];omega)
    have e0 : (o == 0) = true:=by simp;omega
    have e3 : (o != 0) = false:=by simp;omega
    have e4 : o ≤ 0:=by omega
    have e5 : 0 ≤ o:=by omega
    have e1 : ¬ o < 0:=by omega
    have e2 : ¬ 0 < o:=by omega
    clear h
    rw [HV.out] at HAD
    go_wp2
    go_ret
    exact ⟨ret_eq (by rw [HAD.out];rfl),HFIN.out _ HB2.out⟩
   ·have HV:=Ld (show holdsP 3 o = false by simp [holdsP];omega)
    have e0 : (o == 0) = false:=by simp;omega
    have e3 : (o != 0) = true:=by simp;omega
    have e4 : ¬ o ≤ 0:=by omega
    have e5 : 0 ≤ o:=by omega
    have e1 : ¬ o < 0:=by omega
    have e2 : 0 < o:=h
    clear h
    rw [HV.out] at HAD
    go_wp2
    go_ret
    exact ⟨ret_eq (by rw [HAD.out];rfl),HFIN.out _ HB2.out⟩
   ·have HV:=Ld (show holdsP 4 o = true by simp [holdsP];omega)
    have e0 : (o == 0) = false:=by simp;omega
    have e3 : (o != 0) = true:=by simp;omega
    have e4 : o ≤ 0:=by omega
    have e5 : ¬ 0 ≤ o:=by omega
    have e1 : o < 0:=h
    have e2 : ¬ 0 < o:=by omega
    clear h
    rw [HV.out] at HAD
    go_wp2
    exact ⟨⟨k + 1,by omega,by go_num,Ld (HAD.out.trans (Bool.true_and _)),Ld (HNXT.out _ HB2.out)⟩,by simp [intOf];omega⟩
   ·have HV:=Ld (show holdsP 4 o = true by simp [holdsP];omega)
    have e0 : (o == 0) = true:=by simp;omega
    have e3 : (o != 0) = false:=by simp;omega
    have e4 : o ≤ 0:=by omega
    have e5 : 0 ≤ o:=by omega
    have e1 : ¬ o < 0:=by omega
    have e2 : ¬ 0 < o:=by omega
    clear h
    rw [HV.out] at HAD
    go_wp2
    exact ⟨⟨k + 1,by omega,by go_num,Ld (HAD.out.trans (Bool.true_and _)),Ld (HNXT.out _ HB2.out)⟩,by simp [intOf];omega⟩
   ·have HV:=Ld (show holdsP 4 o = false by simp [holdsP];omega)
    have e0 : (o == 0) = false:=by simp;omega
    have e3 : (o != 0) = true:=by simp;omega
    have e4 : ¬ o ≤ 0:=by omega
    have e5 : 0 ≤ o:=by omega
    have e1 : ¬ o < 0:=by omega
    have e2 : 0 < o:=h
    clear h
    rw [HV.out] at HAD
    go_wp2
    go_ret
    exact ⟨ret_eq (by rw [HAD.out];rfl),HFIN.out _ HB2.out⟩
   ·have HV:=Ld (show holdsP 5 o = false by simp [holdsP];omega)
    have e0 : (o == 0) = false:=by simp;omega
    have e3 : (o != 0) = true:=by simp;omega
    have e4 : o ≤ 0:=by omega
    have e5 : ¬ 0 ≤ o:=by omega
    have e1 : o < 0:=h
    have e2 : ¬ 0 < o:=by omega
    clear h
    rw [HV.out] at HAD
    go_wp2
    go_ret
    exact ⟨ret_eq (by rw [HAD.out];rfl),HFIN.out _ HB2.out⟩
   ·have HV:=Ld (show holdsP 5 o = false by simp [holdsP];omega)
    have e0 : (o == 0) = true:=by simp;omega
    have e3 : (o != 0) = false:=by simp;omega
    have e4 : o ≤ 0:=by omega
    have e5 : 0 ≤ o:=by omega
    have e1 : ¬ o < 0:=by omega
    have e2 : ¬ 0 < o:=by omega
    clear h
    rw [HV.out] at HAD
    go_wp2
    go_ret
    exact ⟨ret_eq (by rw [HAD.out];rfl),HFIN.out _ HB2.out⟩
   ·have HV:=Ld (show holdsP 5 o = true by simp [holdsP];omega)
    have e0 : (o == 0) = false:=by simp;omega
    have e3 : (o != 0) = true:=by simp;omega
    have e4 : ¬ o ≤ 0:=by omega
    have e5 : 0 ≤ o:=by omega
    have e1 : ¬ o < 0:=by omega
    have e2 : 0 < o:=h
    clear h
    rw [HV.out] at HAD
    go_wp2
    exact ⟨⟨k + 1,by omega,by go_num,Ld (HAD.out.trans (Bool.true_and _)),Ld (HNXT.out _ HB2.out)⟩,by simp [intOf];omega⟩
   ·have HV:=Ld (show holdsP 6 o = false by simp [holdsP];omega)
    have e0 : (o == 0) = false:=by simp;omega
    have e3 : (o != 0) = true:=by simp;omega
    have e4 : o ≤ 0:=by omega
    have e5 : ¬ 0 ≤ o:=by omega
    have e1 : o < 0:=h
    have e2 : ¬ 0 < o:=by omega
    clear h
    rw [HV.out] at HAD
    go_wp2
    go_ret
    exact ⟨ret_eq (by rw [HAD.out];rfl),HFIN.out _ HB2.out⟩
   ·have HV:=Ld (show holdsP 6 o = true by simp [holdsP];omega)
    have e0 : (o == 0) = true:=by simp;omega
    have e3 : (o != 0) = false:=by simp;omega
    have e4 : o ≤ 0:=by omega
    have e5 : 0 ≤ o:=by omega
    have e1 : ¬ o < 0:=by omega
    have e2 : ¬ 0 < o:=by omega
    clear h
    rw [HV.out] at HAD
    go_wp2
    exact ⟨⟨k + 1,by omega,by go_num,Ld (HAD.out.trans (Bool.true_and _)),Ld (HNXT.out _ HB2.out)⟩,by simp [intOf];omega⟩
   ·have HV:=Ld (show holdsP 6 o = true by simp [holdsP];omega)
    have e0 : (o == 0) = false:=by simp;omega
    have e3 : (o != 0) = true:=by simp;omega
    have e4 : ¬ o ≤ 0:=by omega
    have e5 : 0 ≤ o:=by omega
    have e1 : ¬ o < 0:=by omega
    have e2 : 0 < o:=h
    clear h
    rw [HV.out] at HAD
    go_wp2
    exact ⟨⟨k + 1,by omega,by go_num,Ld (HAD.out.trans (Bool.true_and _)),Ld (HNXT.out _ HB2.out)⟩,by simp [intOf];omega⟩
   ·have HV:=Ld (show holdsP xk o = false by simp [holdsP,k1,k2,k3,k4,k5,k6])
    have e0 : (o == 0) = false:=by simp;omega
    have e3 : (o != 0) = true:=by simp;omega
    have e4 : o ≤ 0:=by omega
    have e5 : ¬ 0 ≤ o:=by omega
    have e1 : o < 0:=h
    have e2 : ¬ 0 < o:=by omega
    have f1 : (xk == 1) = false:=by simpa using k1
    have f2 : (xk == 2) = false:=by simpa using k2
    have f3 : (xk == 3) = false:=by simpa using k3
    have f4 : (xk == 4) = false:=by simpa using k4
    have f5 : (xk == 5) = false:=by simpa using k5
    have f6 : (xk == 6) = false:=by simpa using k6
    clear k1 k2 k3 k4 k5 k6
    clear h
    rw [HV.out] at HAD
    go_wp2
    go_ret
    exact ⟨ret_eq (by rw [HAD.out];rfl),HFIN.out _ HB2.out⟩
   ·have HV:=Ld (show holdsP xk o = false by simp [holdsP,k1,k2,k3,k4,k5,k6])
    have e0 : (o == 0) = true:=by simp;omega
    have e3 : (o != 0) = false:=by simp;omega
    have e4 : o ≤ 0:=by omega
    have e5 : 0 ≤ o:=by omega
    have e1 : ¬ o < 0:=by omega
    have e2 : ¬ 0 < o:=by omega
    have f1 : (xk == 1) = false:=by simpa using k1
    have f2 : (xk == 2) = false:=by simpa using k2
    have f3 : (xk == 3) = false:=by simpa using k3
    have f4 : (xk == 4) = false:=by simpa using k4
    have f5 : (xk == 5) = false:=by simpa using k5
    have f6 : (xk == 6) = false:=by simpa using k6
    clear k1 k2 k3 k4 k5 k6
    clear h
    rw [HV.out] at HAD
    go_wp2
    go_ret
    exact ⟨ret_eq (by rw [HAD.out];rfl),HFIN.out _ HB2.out⟩
   ·have HV:=Ld (show holdsP xk o = false by simp [holdsP,k1,k2,k3,k4,k5,k6])
    have e0 : (o == 0) = false:=by simp;omega
    have e3 : (o != 0) = true:=by simp;omega
    have e4 : ¬ o ≤ 0:=by omega
    have e5 : 0 ≤ o:=by omega
    have e1 : ¬ o < 0:=by omega
    have e2 : 0 < o:=h
    have f1 : (xk == 1) = false:=by simpa using k1
    have f2 : (xk == 2) = false:=by simpa using k2
    have f3 : (xk == 3) = false:=by simpa using k3
    have f4 : (xk == 4) = false:=by simpa using k4
    have f5 : (xk == 5) = false:=by simpa using k5
    have f6 : (xk == 6) = false:=by simpa using k6
    clear k1 k2 k3 k4 k5 k6
    clear h
    rw [HV.out] at HAD
    go_wp2
    go_ret
    exact ⟨ret_eq (by rw [HAD.out];rfl),HFIN.out _ HB2.out⟩
  ·have HDN:=Ld (show wh.drop k = [] from List.drop_eq_nil_of_le (by omega))
   have HWT:=Ld (ha.out.trans (by rw [HDN.out]))
   clear ha HDN
   go_wp2
   go_ret
   exact ⟨ret_eq (by rw [HWT.out];rfl),HW.out⟩
end
section
open Go.RowKit
set_option maxHeartbeats 4000000
set_option maxRecDepth 100000
def RowsEndB [Inhabited Thr] (ok : List (List ItemD) → Nat → Prop) (m n0 : Nat) (w : World) (e : Ending) (w' : World) : Prop :=
 ∃ (RO : List VI) (A : Option Addr) (c n : Nat),e = .returned (.tuple #[.slice A RO.length c,.int .i64 n]) ∧ ok (rowsD RO) n ∧ RdR w' A c RO ∧ (∀ x ∈ RO,BlkV (fun k => w.heap.size ≤ k) x) ∧ (∀ x ∈ RO,x.l.length = m) ∧ RO.length ≤ n0 ∧ (∀ b o,A = some ⟨b,o,none⟩ → w.heap.size ≤ b) ∧ Below w.heap.size w w'
def RowsOk (pg wd : Int) (t : TabD) (q : QryV) (P : List (ByteArray × ByteArray)) (out : List (List ItemD)) (n : Nat) : Prop :=
 if (spanR pg wd t q).2.2 ≠ 0 then out = [] ∧ n = (spanR pg wd t q).2.2
 else match rowsA pg wd t (spanR pg wd t q).1 (spanR pg wd t q).2.1 [] P with
  | (none,m) => out = [] ∧ n = m
  | (some rows,_) => n = 0 ∧ out = keptD t q (if q.down = true then rows.reverse else rows)
section
variable {pg wd : Int} {t : TabD} {q : QryV} {P : List (ByteArray × ByteArray)}
theorem rows_err (h : (spanR pg wd t q).2.2 ≠ 0) : RowsOk pg wd t q P [] (spanR pg wd t q).2.2:=by rw [RowsOk,if_pos h];exact ⟨rfl,rfl⟩
theorem rows_none (h : (spanR pg wd t q).2.2 = 0) {n : Nat} (hr : rowsA pg wd t (spanR pg wd t q).1 (spanR pg wd t q).2.1 [] P = (none,n)) : RowsOk pg wd t q P [] n:=by rw [RowsOk,if_neg (by omega),hr];exact ⟨rfl,rfl⟩
theorem rows_some (h : (spanR pg wd t q).2.2 = 0) {n : Nat} {rows : List (List ItemD)} (hr : rowsA pg wd t (spanR pg wd t q).1 (spanR pg wd t q).2.1 [] P = (some rows,n)) : RowsOk pg wd t q P (keptD t q (if q.down = true then rows.reverse else rows)) 0:=by
 rw [RowsOk,if_neg (by omega),hr];exact ⟨rfl,rfl⟩
theorem lim_of (h : chkQ pg wd t q = 0) : 0 ≤ q.limit:=by
 unfold chkQ at h
 by_cases hl : q.limit < 0
 ·exfalso
  rw [if_pos hl] at h
  repeat' split at h
  all_goals first | omega | contradiction
 ·omega
theorem kept_rows {rows : List (List ItemD)} {R X S : List VI} (h : rowsD R = rows.filter (keepD t q.wh)) (hX : X = if q.down = true then R.reverse else R) (hS : S = if q.limit = 0 then X else X.take q.limit.toNat) (hl : 0 ≤ q.limit) :
 rowsD S = keptD t q (if q.down = true then rows.reverse else rows):=by
 have e : rowsD X = (if q.down = true then rows.reverse else rows).filter (keepD t q.wh):=by
  subst hX
  split
  ·rw [List.filter_reverse,← h];simp [rowsD]
  ·exact h
 subst hS
 rw [keptD,← e]
 by_cases h0 : q.limit = 0
 ·rw [if_pos h0,if_neg (by omega)]
 ·rw [if_neg h0,if_pos (by omega)];simp [rowsD]
end
theorem take_lt {X : List VI} {j m : Nat} (hj : j < X.length) (h : ((X.take j).take m).length < m) {x : VI} (hx : X[j] = x) : (X.take j).take m ++ [x] = (X.take (j + 1)).take m:=by
 rw [List.length_take,List.length_take] at h
 rw [List.take_take,List.take_take,show min m j = j by omega,show min m (j + 1) = j + 1 by omega,List.take_succ_eq_append_getElem hj,hx]
theorem take_ge {X : List VI} {j m : Nat} (hj : j < X.length) (h : ¬ ((X.take j).take m).length < m) : (X.take j).take m = (X.take (j + 1)).take m:=by
 rw [List.length_take,List.length_take] at h
 rw [List.take_take,List.take_take,show min m j = m by omega,show min m (j + 1) = m by omega]
theorem refRows_c26 [Inhabited Thr] (pg wd : Int) (A : Option Addr) (c : Nat) (t : TabD) (q : QryV) (AP : Option Addr) (cP : Nat) (P : List (ByteArray × ByteArray)) (w : World) (hR : RdT w A c t) (hQ : RdQ w q) (hP : RdP w AP cP P) :
 Calls Tryz.prog 43 #[vF pg wd,vT t A c,q.val,.slice AP P.length cP] w (RowsEndB (RowsOk pg wd t q P) t.cols.length P.length w):=by
 have HR:=Ld hR
 have HQ:=Ld hQ
 have HP:=Ld hP
 have hkb:=hP.hb
 have hfo:=hQ.hf
 have HWX:=Ld hQ.wx
 have HQB:=Ld hQ.wb
 have HQL:=Ld hQ.hl
 have HPE:=Ld (rows_err (pg:=pg) (wd:=wd) (t:=t) (q:=q) (P:=P))
 have HPN:=Ld (fun h n => rows_none (pg:=pg) (wd:=wd) (t:=t) (q:=q) (P:=P) h (n:=n))
 have HPS:=Ld (fun h n rows => rows_some (pg:=pg) (wd:=wd) (t:=t) (q:=q) (P:=P) h (n:=n) (rows:=rows))
 have HSQ:=Ld (fun h => (⟨QOk.of (pg:=pg) (wd:=wd) (t:=t) (q:=q) (spanR_ok h) hfo.1,lim_of (pg:=pg) (wd:=wd) (t:=t) (q:=q) (spanR_ok h)⟩ : QOk t q ∧ 0 ≤ q.limit))
 obtain ⟨OK,hOK⟩ : ∃ OK,RowsOk pg wd t q P = OK:=⟨_,rfl⟩
 rw [hOK] at HPE
 simp only [hOK] at HPN HPS
 rw [hOK]
 obtain ⟨lo,hlo⟩ : ∃ x,(spanR pg wd t q).1 = x:=⟨_,rfl⟩
 obtain ⟨hi,hhi⟩ : ∃ x,(spanR pg wd t q).2.1 = x:=⟨_,rfl⟩
 obtain ⟨es,hes⟩ : ∃ x,(spanR pg wd t q).2.2 = x:=⟨_,rfl⟩
 have HLO:=Ld hlo
 have HHI:=Ld hhi
 have HES:=Ld hes
 rw [hes] at HPE HSQ
 simp only [hlo,hhi,hes] at HPN HPS
 obtain ⟨LO,hLO⟩ : ∃ x : ByteArray,(⟨lo.toArray⟩ : ByteArray) = x:=⟨_,rfl⟩
 obtain ⟨HI,hHI⟩ : ∃ x : ByteArray,(⟨hi.toArray⟩ : ByteArray) = x:=⟨_,rfl⟩
 have HLB:=Ld hLO
 have HHB:=Ld hHI
 have HLL:=Ld (show LO.data.toList = lo by rw [← hLO])
 have HHL:=Ld (show HI.data.toList = hi by rw [← hHI])
 obtain ⟨TD,hTD⟩ : ∃ TD,t = TD:=⟨_,rfl⟩
 obtain ⟨QD,hQD⟩ : ∃ QD,q = QD:=⟨_,rfl⟩
 have HTD:=Ld hTD
 have HQD:=Ld hQD
 rcases t with ⟨tn,cols,keys⟩
 rcases q with ⟨qt,fr,tt,wh,qc,qd,ql,qf,qo,AF,cF,AT,cT,AW,cW,AC,cC⟩
 simp only [QryV.val,QryV.cells] at hfo HWX HQB HQL ⊢
 obtain ⟨W0,hW0⟩ : ∃ W0,(((w.alloc (.cells #[.int .i64 pg,.int .i64 wd] 24)).alloc (.cells #[.string tn,.slice A cols.length c,.int .i64 keys] 27)).alloc (.cells #[.string qt,.slice AF fr.length cF,.slice AT tt.length cT,.slice AW wh.length cW,.slice AC qc.length cC,.bool qd,.int .i64 ql,.int .u8 qf,.string qo] 33)) = W0:=⟨_,rfl⟩
 have HW0:=Ld hW0
 have HBX:=Ld (fun W (h : Below (w.heap.size + 3) W0 W) => boxes_fq (hW0 ▸ h))
 have HS0:=Ld (show W0.heap.size = w.heap.size + 3 by rw [← hW0];simp)
 have HWB:=Ld (show Below w.heap.size w W0 by rw [← hW0];exact (two_below w _ _).alloc (by simp;omega) _)
 clear hR hQ hP hW0 hTD hQD hOK hlo hhi hes hLO hHI
 by_cases h0 : es = 0
 ·have HOKQ:=Ld (HSQ.out h0)
  have HPN2:=Ld (fun n => HPN.out h0 n)
  have HPS2:=Ld (fun n rows => HPS.out h0 n rows)
  have z0:=zz h0
  clear h0
  go_enter Tryz.func43,Tryz.ntmps43
  go_wp2_with (go_at_call 11;go_must (rw [HW0.out];refine (refSpan_c pg wd A c ⟨tn,cols,keys⟩ ⟨qt,fr,tt,wh,qc,qd,ql,qf,qo,AF,cF,AT,cT,AW,cW,AC,cC⟩ W0 (HR.out.below HWB.out) (HQ.out.below HWB.out)).mono ?_;rw [HLO.out,HHI.out,HES.out,HLB.out,HHB.out];rintro e w1 ⟨rfl,hb1⟩;have HB1:=Ld (show Below (w.heap.size + 3) W0 w1 by have:=hb1;rw [HS0.out] at this;exact this);clear hb1))
  go_loopw [14,13] (fun i v wr => ∃ (k : Nat) (R : List VI) (acc : List (List ItemD)),k ≤ P.length ∧ i = .int .i64 k ∧ Hid (R.length ≤ k) ∧ Hid (rowsA pg wd ⟨tn,cols,keys⟩ lo hi [] P = rowsA pg wd ⟨tn,cols,keys⟩ lo hi acc (P.drop k)) ∧ Hid (rowsD R = acc.filter (keepD ⟨tn,cols,keys⟩ wh)) ∧ Hid (∀ x ∈ R,x.l.length = cols.length) ∧ Hid (∀ x ∈ R,BlkV (fun k => w.heap.size ≤ k) x) ∧ Hid (OwnR wr (w.heap.size + 3) v R) ∧ Hid (Below (w.heap.size + 3) W0 wr)) (fun i _ _ => P.length - (intOf i).toNat)
  case atStart => exact ⟨0,[],[],Nat.zero_le _,rfl,Ld (Nat.le_refl _),Ld rfl,Ld rfl,Ld (by simp),Ld (by simp),Ld (OwnR.nil _ _),HB1⟩
  case round =>
   obtain ⟨k,R,acc,hk,rfl,hrl,hrows,hacc,hrc,hrb,hO,hB⟩:=hrel
   obtain ⟨⟨f0,f1⟩,⟨q0,q1,q2⟩,⟨a0,a1,a2,a3,a4,a5,a6,a7,a8⟩,q3,q4⟩:=HBX.out _ hB.out
   have HW:=Ld q4
   have HZ:=Ld (show w.heap.size + 3 ≤ wr.heap.size from q3)
   clear q4
   have q5 : w.heap.size < wr.heap.size:=by omega
   have q6 : w.heap.size + 1 < wr.heap.size:=by omega
   by_cases hlt : k < P.length
   ·have HPr:=Ld (HP.out.below HW.out)
    obtain ⟨pb,po,rfl⟩ : ∃ pb po,AP = some ⟨pb,po,none⟩:=by obtain ⟨b,o,e,_⟩:=HPr.out.rd.2 (by omega);exact ⟨b,o,e⟩
    obtain ⟨p0,p1⟩:=pair_at HPr.out.rd hlt
    have HPW:=Ld (fun W (h : Below wr.heap.size wr W) => pair_at (HPr.out.below h).rd hlt)
    have HSK:=Ld (fun p (hp : P[k] = p) => rowsA_skip (pg:=pg) (wd:=wd) (t:=⟨tn,cols,keys⟩) (lo:=lo) (hi:=hi) (acc:=acc) hlt hp)
    have HNO:=Ld (fun p (hp : P[k] = p) h1 h2 n => rowsA_none (pg:=pg) (wd:=wd) (t:=⟨tn,cols,keys⟩) (lo:=lo) (hi:=hi) (acc:=acc) hlt hp h1 h2 (n:=n))
    have HSO:=Ld (fun p (hp : P[k] = p) h1 h2 n r => rowsA_some (pg:=pg) (wd:=wd) (t:=⟨tn,cols,keys⟩) (lo:=lo) (hi:=hi) (acc:=acc) hlt hp h1 h2 (n:=n) (r:=r))
    obtain ⟨p,hp⟩ : ∃ p,P[k] = p:=⟨_,rfl⟩
    have HSK2:=Ld (HSK.out p hp)
    have HNO2:=Ld (HNO.out p hp)
    have HSO2:=Ld (HSO.out p hp)
    simp only [hp] at p0 p1 HPW
    clear hp HSK HNO HSO
    rcases p with ⟨kb,vb⟩
    simp only at p0 p1 HSK2 HNO2 HSO2 HPW
    have HFIN:=Ld (fun W (h : Below wr.heap.size wr W) => HW.out.trans (h.mono HW.out.size))
    have HNXT:=Ld (fun W (h : Below wr.heap.size wr W) => hB.out.trans (h.mono HZ.out))
    have HBY:=Ld (fun W (h : Below wr.heap.size wr W) => HBX.out W (hB.out.trans (h.mono HZ.out)))
    cases hl1 : ltB kb.data.toList lo with
    | true =>
      have e1:=less_eq HLL.out hl1
      have HS:=Ld (HSK2.out (.inl hl1))
      clear hl1
      go_wp2
      exact ⟨⟨k + 1,R,acc,by omega,by go_num,Ld (by have:=hrl.out;omega),Ld (by rw [hrows.out,HS.out]),hacc,hrc,hrb,hO,hB⟩,by simp [intOf];omega⟩
    | false =>
      have e1:=less_eq HLL.out hl1
      have H1:=Ld hl1
      clear hl1
      cases hl2 : ltB kb.data.toList hi with
      | false =>
        have e2:=less_eq HHL.out hl2
        have HS:=Ld (HSK2.out (.inr hl2))
        clear hl2
        go_wp2
        exact ⟨⟨k + 1,R,acc,by omega,by go_num,Ld (by have:=hrl.out;omega),Ld (by rw [hrows.out,HS.out]),hacc,hrc,hrb,hO,hB⟩,by simp [intOf];omega⟩
      | true =>
        have e2:=less_eq HHL.out hl2
        have H2:=Ld hl2
        clear hl2
        obtain ⟨o,n,hrr⟩ : ∃ o n,rowR pg wd ⟨tn,cols,keys⟩ kb.data.toList vb.data.toList = (o,n):=⟨_,_,rfl⟩
        have HRR:=Ld hrr
        cases o with
        | none =>
          have HN:=Ld (HNO2.out H1.out H2.out n hrr)
          have z1:=nz (rowR_err hrr)
          have HAL:=Ld (HPN2.out n (hrows.out.trans HN.out))
          clear hrr
          go_upto_region 9 with fail
          clear f0 f1 q0 q1 q2 a0 a1 a2 a3 a4 a5 a6 a7 a8 p0 p1 q3 q5 q6
          refine wp_region_sched (S:=fun W => Below wr.heap.size wr W) [(0,true),(1,true),(2,true),(3,true),(4,true),(5,true),(6,false),(7,true),(8,true),(9,true),(10,true),(11,true)] (by kernel_rfl) (by kernel_rfl) (by kernel_rfl) (fun _ _ d _ _ h => by cases d <;> exact h) (Below.refl _ _).drew ?_
          repeat (apply sched_take;(exact rfl);rfl;(intro W hW;obtain ⟨⟨f0,f1⟩,⟨q0,q1,q2⟩,_,q3,_⟩:=HBY.out W hW;obtain ⟨p0,p1⟩:=HPW.out W hW;go_simp;(try with_reducible rfl));simp only [Act.put,List.setIfInBounds_toArray,List.set_cons_zero,List.set_cons_succ])
          apply sched_run;(exact rfl);rfl;intro K hK;go_simp
          have hbd:=(Below.refl wr.heap.size wr).drew
          refine (refRowOf_c pg wd A c ⟨tn,cols,keys⟩ kb vb _ (HR.out.below (HFIN.out _ hbd))).mono ?_
          rw [HRR.out]
          intro e w1 h
          obtain ⟨hb,rfl⟩:=RowEnd.none_ h
          have HB2:=Ld (hbd.trans (hb.mono hbd.size))
          clear h hb hbd
          refine hK.out _ _ HB2.out (fun _ => ?_)
          clear hK K
          try simp only [Act.put,List.setIfInBounds_toArray,List.set_cons_zero,List.set_cons_succ]
          repeat (apply sched_take;(exact rfl);rfl;(intro W hW;obtain ⟨⟨f0,f1⟩,⟨q0,q1,q2⟩,_,q3,_⟩:=HBY.out W hW;obtain ⟨p0,p1⟩:=HPW.out W hW;go_simp;(try with_reducible rfl));simp only [Act.put,List.setIfInBounds_toArray,List.set_cons_zero,List.set_cons_succ])
          refine sched_done ?_
          go_wp2
          go_ret2
          exact ⟨[],none,0,n,rfl,HAL.out,RdR.nil _ _,by simp,by simp,Nat.zero_le _,(by intro b o e;cases e),HFIN.out _ HB2.out⟩
        | some r =>
          have HS:=Ld (HSO2.out H1.out H2.out n r hrr)
          have HRC:=Ld (rowR_cols hrr)
          clear hrr
          go_upto_region 9 with fail
          clear f0 f1 q0 q1 q2 a0 a1 a2 a3 a4 a5 a6 a7 a8 p0 p1 q3 q5 q6
          refine wp_region_sched (S:=fun W => Below wr.heap.size wr W) [(0,true),(1,true),(2,true),(3,true),(4,true),(5,true),(6,false),(7,true),(8,true),(9,true),(10,true),(11,true)] (by kernel_rfl) (by kernel_rfl) (by kernel_rfl) (fun _ _ d _ _ h => by cases d <;> exact h) (Below.refl _ _).drew ?_
          repeat (apply sched_take;(exact rfl);rfl;(intro W hW;obtain ⟨⟨f0,f1⟩,⟨q0,q1,q2⟩,_,q3,_⟩:=HBY.out W hW;obtain ⟨p0,p1⟩:=HPW.out W hW;go_simp;(try with_reducible rfl));simp only [Act.put,List.setIfInBounds_toArray,List.set_cons_zero,List.set_cons_succ])
          apply sched_run;(exact rfl);rfl;intro K hK;go_simp
          have hbd:=(Below.refl wr.heap.size wr).drew
          refine (refRowOf_c pg wd A c ⟨tn,cols,keys⟩ kb vb _ (HR.out.below (HFIN.out _ hbd))).mono ?_
          rw [HRR.out]
          intro e w1 h
          obtain ⟨hb,L,A',c',rfl,hd,hOI,hRI,hbk⟩:=RowEnd.some_ h
          have HB2:=Ld (hbd.trans (hb.mono hbd.size))
          have HD:=Ld hd
          have HOI:=Ld hOI
          have HRI:=Ld hRI
          have HBK:=Ld (fun x hx => (hbk x hx).mono (Q:=fun j => wr.heap.size ≤ j) (fun j hj => hj))
          have HOB:=Ld (own_block hOI.own)
          clear h hb hd hOI hRI hbk hbd
          refine hK.out _ _ HB2.out (fun _ => ?_)
          clear hK K
          try simp only [Act.put,List.setIfInBounds_toArray,List.set_cons_zero,List.set_cons_succ]
          repeat (apply sched_take;(exact rfl);rfl;(intro W hW;obtain ⟨⟨f0,f1⟩,⟨q0,q1,q2⟩,_,q3,_⟩:=HBY.out W hW;obtain ⟨p0,p1⟩:=HPW.out W hW;go_simp;(try with_reducible rfl));simp only [Act.put,List.setIfInBounds_toArray,List.set_cons_zero,List.set_cons_succ])
          refine sched_done ?_
          obtain ⟨⟨f0,f1⟩,⟨q0,q1,q2⟩,⟨a0,a1,a2,a3,a4,a5,a6,a7,a8⟩,q3,_⟩:=HBY.out _ HB2.out
          have HLC:=Ld (show L.length = cols.length by have h1:=HRC.out.2;rw [← HD.out,dataL_eq,List.length_map] at h1;exact h1)
          have HWC:=Ld (show ∀ x ∈ wh,0 ≤ findC ⟨tn,cols,keys⟩ x.col ∧ findC ⟨tn,cols,keys⟩ x.col < L.length from fun x hx => by have:=HOKQ.out.1.wc x hx;have h2:=HLC.out;simp only at this;omega)
          obtain ⟨kp,hkp⟩ : ∃ b,keepD ⟨tn,cols,keys⟩ wh r = b:=⟨_,rfl⟩
          have HKP:=Ld hkp
          clear hkp
          cases kp with
          | false =>
            go_wp2_with (go_at_call 81;go_must (refine (refHolds_c A c ⟨tn,cols,keys⟩ ⟨qt,fr,tt,wh,qc,qd,ql,qf,qo,AF,cF,AT,cT,AW,cW,AC,cC⟩ A' c' L _ (HR.out.below (HFIN.out _ HB2.out)) (HQ.out.below (HFIN.out _ HB2.out)) HRI.out HWC.out).mono ?_;rw [HD.out,HKP.out];rintro e w3 ⟨rfl,hb3⟩;have HB3:=Ld (HB2.out.trans (hb3.mono HB2.out.size));have HRI3:=Ld (HRI.out.below hb3);have HOI3:=Ld (HOI.out.below hb3);clear hb3))
            exact ⟨⟨k + 1,R,acc ++ [r],by omega,by go_num,Ld (by have:=hrl.out;omega),Ld (by rw [hrows.out,HS.out]),Ld (by rw [hacc.out,List.filter_append];simp [HKP.out]),hrc,hrb,Ld (hO.out.below HB3.out),Ld (HNXT.out _ HB3.out)⟩,by simp [intOf];omega⟩
          | true =>
            go_wp2_with (first
             | (go_at_call 81;go_must (refine (refHolds_c A c ⟨tn,cols,keys⟩ ⟨qt,fr,tt,wh,qc,qd,ql,qf,qo,AF,cF,AT,cT,AW,cW,AC,cC⟩ A' c' L _ (HR.out.below (HFIN.out _ HB2.out)) (HQ.out.below (HFIN.out _ HB2.out)) HRI.out HWC.out).mono ?_;rw [HD.out,HKP.out];rintro e w3 ⟨rfl,hb3⟩;have HB3:=Ld (HB2.out.trans (hb3.mono HB2.out.size));have HRI3:=Ld (HRI.out.below hb3);have HOI3:=Ld (HOI.out.below hb3);clear hb3))
             | (at_builtin;go_must (have HO5:=Ld ((hO.out.below HB3.out).below ((Below.refl _ _).alloc (Nat.le_refl _) (.cells #[.slice A' L.length c'] 28)));refine wpList_rows (B:=w.heap.size + 3) (R:=R) (ys:=[rowV A' c' L]) rfl (.tmp 70) (.tmp 72) rfl HO5.out rfl rfl (rd_row w3 A' c' L rfl) rfl (by intro y hy;obtain rfl : y = rowV A' c' L:=(by simpa using hy);exact (RdV.row HRI3.out (own_hw HOI3.out.own)).grow ((Below.refl _ _).alloc (Nat.le_refl _) _)) (by intro y hy;obtain rfl : y = rowV A' c' L:=(by simpa using hy);exact BlkV.row (fun _ b o e h => by have h1:=(HOB.out b o e).1;have h2:=(hO.out.own.lt b h).2;simp at h1;omega) (fun z hz => (HBK.out z hz).mono fun j hj e => by have h2:=(hO.out.own.lt j e).2;omega)) (by have:=hrl.out;omega) (Nat.le_trans HZ.out (Nat.le_trans HB3.out.size (by simp))) ?_;intro v2 w4 hO2 hK2 _;have HO2:=Ld hO2;have HK2:=Ld (hK2.belowOwn HO5.out.own (Nat.le_trans HZ.out (Nat.le_trans HB3.out.size (by simp))));clear hO2 hK2)))
            exact ⟨⟨k + 1,_,acc ++ [r],by omega,by go_num,Ld (by rw [List.length_append];have:=hrl.out;simp;omega),Ld (by rw [hrows.out,HS.out]),Ld (by rw [rowsD_app,hacc.out,List.filter_append,show rowsD [rowV A' c' L] = [VI.dataL L] from rfl,HD.out];simp [HKP.out]),Ld (by
             intro x hx
             rcases List.mem_append.1 hx with hx | hx
             ·exact hrc.out x hx
             ·rw [List.mem_singleton.1 hx];exact HLC.out),Ld (by
             intro x hx
             rcases List.mem_append.1 hx with hx | hx
             ·exact hrb.out x hx
             ·rw [List.mem_singleton.1 hx];exact BlkV.row (fun _ b o e => Nat.le_trans HW.out.size (HOB.out b o e).1) (fun z hz => (HBK.out z hz).mono fun j hj => Nat.le_trans HW.out.size hj)),HO2,Ld ((((HNXT.out _ HB3.out).alloc (Nat.le_trans HZ.out HB3.out.size) _)).trans HK2.out)⟩,by simp [intOf];omega⟩
   ·have HTA:=Ld (show rowsA pg wd ⟨tn,cols,keys⟩ lo hi [] P = (some acc,0) by rw [hrows.out,List.drop_eq_nil_of_le (by omega)];rfl)
    have HAL:=Ld (HPS2.out 0 acc HTA.out)
    have HRLB:=Ld (show R.length * 24 ≤ 140737488355328 by have:=hrl.out;omega)
    have HRP:=Ld (show R.length ≤ P.length by have:=hrl.out;omega)
    obtain ⟨RA,RC,hv,hRR⟩:=hO.out.rdr HRLB.out
    subst hv
    have HRR:=Ld hRR
    have hRl:=HRLB.out
    have hli:=HOKQ.out.2
    clear hRR
    obtain ⟨X,hX⟩ : ∃ X : List VI,X = if qd = true then R.reverse else R:=⟨_,rfl⟩
    have HX:=Ld hX
    have hXl : X.length = R.length:=by rw [hX];split <;> simp
    have HXM:=Ld (show ∀ x ∈ X,x ∈ R by intro x hx;rw [hX] at hx;split at hx <;> simpa using hx)
    clear hX
    go_wp2
    clear hlt
    rename World => W1
    go_loopw [18,17] (fun i v wx => ∃ (j : Nat) (S : List VI),j ≤ X.length ∧ i = .int .i64 j ∧ Hid (S = if ql = 0 then X.take j else (X.take j).take ql.toNat) ∧ Hid (OwnR wx W1.heap.size v S) ∧ Hid (Below W1.heap.size W1 wx)) (fun i _ _ => X.length - (intOf i).toNat)
    case atStart => exact ⟨0,[],Nat.zero_le _,rfl,Ld (by simp),Ld (OwnR.nil _ _),Ld (Below.refl _ _)⟩
    case round =>
     obtain ⟨j,S,hj,rfl,hS,hO2,hB2⟩:=hrel
     have HBW:=Ld (hB.out.trans (hB2.out.mono HZ.out))
     obtain ⟨⟨f0,f1⟩,⟨q0,q1,q2⟩,⟨a0,a1,a2,a3,a4,a5,a6,a7,a8⟩,q3,q4⟩:=HBX.out _ HBW.out
     have HW4:=Ld q4
     clear q4
     have HSL:=Ld (show S.length ≤ j by rw [hS.out];split <;> simp only [List.length_take] <;> omega)
     obtain ⟨SA,SC,hv,hSR⟩:=hO2.out.rdr (by have:=HSL.out;omega)
     subst hv
     have HSR:=Ld hSR
     clear hSR
     by_cases hjl : j < R.length
     ·have hjx : j < X.length:=by omega
      obtain ⟨rb,ro,rfl⟩ : ∃ b o,RA = some ⟨b,o,none⟩:=by obtain ⟨b,o,e,_⟩:=HRR.out.rd.2 (by omega);exact ⟨b,o,e⟩
      have hrd:=HRR.out.below hB2.out
      cases qd with
      | true =>
        obtain ⟨kk,hkk,hkl,hxk⟩ : ∃ kk : Nat,((R.length : Int) - 1 - j) = kk ∧ kk < R.length ∧ ∀ h1 h2,X[j]'h1 = R[kk]'h2:=⟨R.length - 1 - j,by omega,by omega,fun h1 h2 => by have:=HX.out;simp only [if_true] at this;simp [this]⟩
        have hp:=row_at hrd.rd hkl
        have HXJ:=Ld (hxk hjx hkl)
        have HXV:=Ld (HRR.out.hx _ (List.getElem_mem hkl))
        obtain ⟨x,hx⟩ : ∃ x,R[kk] = x:=⟨_,rfl⟩
        simp only [hx] at hp HXJ HXV
        clear hx hxk
        rcases x with ⟨xk,xb,xn,xf,xt,xA,xc,xl⟩
        simp only [VI.A,VI.c,VI.l] at hp
        have hkk2 : IntKind.i64.wrap ((R.length : Int) - 1 - j) = kk:=by rw [hkk];exact IntWalk.i64_in _ (by omega)
        by_cases hl0 : ql = 0
        ·have e0 : (ql == 0) = true:=by simp [hl0]
         have HSN:=Ld (show S ++ [VI.mk xk xb xn xf xt xA xc xl] = if ql = 0 then X.take (j + 1) else (X.take (j + 1)).take ql.toNat by rw [hS.out,if_pos hl0,if_pos hl0,List.take_succ_eq_append_getElem hjx,HXJ.out])
         clear hl0
         go_wp2_with (at_builtin;go_must (have HO5:=Ld (hO2.out.below ((Below.refl _ _).alloc (Nat.le_refl _) (.cells #[.slice xA xl.length xc] 28)));refine wpList_rows (B:=W1.heap.size) (R:=S) (ys:=[VI.mk xk xb xn xf xt xA xc xl]) rfl (.tmp 98) (.tmp 103) rfl HO5.out rfl rfl (rd_row wr xA xc xl rfl) rfl (by intro y hy;obtain rfl : y = VI.mk xk xb xn xf xt xA xc xl:=(by simpa using hy);exact (HXV.out.grow hB2.out).grow ((Below.refl _ _).alloc (Nat.le_refl _) _)) (by intro y hy;obtain rfl : y = VI.mk xk xb xn xf xt xA xc xl:=(by simpa using hy);exact HXV.out.blk.mono fun b hb e => by have:=(hO2.out.own.lt b e).1;omega) (by have:=HSL.out;omega) (Nat.le_trans hB2.out.size (by simp)) ?_;intro v2 w4 hO3 hK2 _;have HO3:=Ld hO3;have HK2:=Ld ((hB2.out.alloc hB2.out.size _).trans (hK2.belowOwn HO5.out.own (Nat.le_trans hB2.out.size (by simp))));clear hO3 hK2))
         exact ⟨⟨j + 1,_,by omega,by go_num,Ld (HSN.out),HO3,HK2⟩,by simp [intOf];omega⟩
        ·have e0 : (ql == 0) = false:=by simp [hl0]
         have HS2:=Ld (hS.out.trans (if_neg hl0))
         by_cases hll : (S.length : Int) < ql
         ·have HSN:=Ld (show S ++ [VI.mk xk xb xn xf xt xA xc xl] = if ql = 0 then X.take (j + 1) else (X.take (j + 1)).take ql.toNat by rw [if_neg hl0,← take_lt hjx (m:=ql.toNat) (by rw [← HS2.out];omega) HXJ.out,← HS2.out])
          clear hl0
          go_wp2_with (at_builtin;go_must (have HO5:=Ld (hO2.out.below ((Below.refl _ _).alloc (Nat.le_refl _) (.cells #[.slice xA xl.length xc] 28)));refine wpList_rows (B:=W1.heap.size) (R:=S) (ys:=[VI.mk xk xb xn xf xt xA xc xl]) rfl (.tmp 98) (.tmp 103) rfl HO5.out rfl rfl (rd_row wr xA xc xl rfl) rfl (by intro y hy;obtain rfl : y = VI.mk xk xb xn xf xt xA xc xl:=(by simpa using hy);exact (HXV.out.grow hB2.out).grow ((Below.refl _ _).alloc (Nat.le_refl _) _)) (by intro y hy;obtain rfl : y = VI.mk xk xb xn xf xt xA xc xl:=(by simpa using hy);exact HXV.out.blk.mono fun b hb e => by have:=(hO2.out.own.lt b e).1;omega) (by have:=HSL.out;omega) (Nat.le_trans hB2.out.size (by simp)) ?_;intro v2 w4 hO3 hK2 _;have HO3:=Ld hO3;have HK2:=Ld ((hB2.out.alloc hB2.out.size _).trans (hK2.belowOwn HO5.out.own (Nat.le_trans hB2.out.size (by simp))));clear hO3 hK2))
          exact ⟨⟨j + 1,_,by omega,by go_num,Ld (HSN.out),HO3,HK2⟩,by simp [intOf];omega⟩
         ·have HSN:=Ld (show S = if ql = 0 then X.take (j + 1) else (X.take (j + 1)).take ql.toNat by rw [if_neg hl0,← take_ge hjx (m:=ql.toNat) (by rw [← HS2.out];omega),← HS2.out])
          clear hl0
          go_wp2
          exact ⟨⟨j + 1,S,by omega,by go_num,Ld (HSN.out),hO2,hB2⟩,by simp [intOf];omega⟩
      | false =>
        obtain ⟨kk,hkk,hkl,hxk⟩ : ∃ kk : Nat,j = kk ∧ kk < R.length ∧ ∀ h1 h2,X[j]'h1 = R[kk]'h2:=⟨j,rfl,hjl,fun h1 h2 => by have:=HX.out;simp only [Bool.false_eq_true,if_false] at this;simp [this]⟩
        have hp:=row_at hrd.rd hkl
        have HXJ:=Ld (hxk hjx hkl)
        have HXV:=Ld (HRR.out.hx _ (List.getElem_mem hkl))
        obtain ⟨x,hx⟩ : ∃ x,R[kk] = x:=⟨_,rfl⟩
        simp only [hx] at hp HXJ HXV
        clear hx hxk
        rcases x with ⟨xk,xb,xn,xf,xt,xA,xc,xl⟩
        simp only [VI.A,VI.c,VI.l] at hp
        subst hkk
        by_cases hl0 : ql = 0
        ·have e0 : (ql == 0) = true:=by simp [hl0]
         have HSN:=Ld (show S ++ [VI.mk xk xb xn xf xt xA xc xl] = if ql = 0 then X.take (j + 1) else (X.take (j + 1)).take ql.toNat by rw [hS.out,if_pos hl0,if_pos hl0,List.take_succ_eq_append_getElem hjx,HXJ.out])
         clear hl0
         go_wp2_with (at_builtin;go_must (have HO5:=Ld (hO2.out.below ((Below.refl _ _).alloc (Nat.le_refl _) (.cells #[.slice xA xl.length xc] 28)));refine wpList_rows (B:=W1.heap.size) (R:=S) (ys:=[VI.mk xk xb xn xf xt xA xc xl]) rfl (.tmp 98) (.tmp 103) rfl HO5.out rfl rfl (rd_row wr xA xc xl rfl) rfl (by intro y hy;obtain rfl : y = VI.mk xk xb xn xf xt xA xc xl:=(by simpa using hy);exact (HXV.out.grow hB2.out).grow ((Below.refl _ _).alloc (Nat.le_refl _) _)) (by intro y hy;obtain rfl : y = VI.mk xk xb xn xf xt xA xc xl:=(by simpa using hy);exact HXV.out.blk.mono fun b hb e => by have:=(hO2.out.own.lt b e).1;omega) (by have:=HSL.out;omega) (Nat.le_trans hB2.out.size (by simp)) ?_;intro v2 w4 hO3 hK2 _;have HO3:=Ld hO3;have HK2:=Ld ((hB2.out.alloc hB2.out.size _).trans (hK2.belowOwn HO5.out.own (Nat.le_trans hB2.out.size (by simp))));clear hO3 hK2))
         exact ⟨⟨j + 1,_,by omega,by go_num,Ld (HSN.out),HO3,HK2⟩,by simp [intOf];omega⟩
        ·have e0 : (ql == 0) = false:=by simp [hl0]
         have HS2:=Ld (hS.out.trans (if_neg hl0))
         by_cases hll : (S.length : Int) < ql
         ·have HSN:=Ld (show S ++ [VI.mk xk xb xn xf xt xA xc xl] = if ql = 0 then X.take (j + 1) else (X.take (j + 1)).take ql.toNat by rw [if_neg hl0,← take_lt hjx (m:=ql.toNat) (by rw [← HS2.out];omega) HXJ.out,← HS2.out])
          clear hl0
          go_wp2_with (at_builtin;go_must (have HO5:=Ld (hO2.out.below ((Below.refl _ _).alloc (Nat.le_refl _) (.cells #[.slice xA xl.length xc] 28)));refine wpList_rows (B:=W1.heap.size) (R:=S) (ys:=[VI.mk xk xb xn xf xt xA xc xl]) rfl (.tmp 98) (.tmp 103) rfl HO5.out rfl rfl (rd_row wr xA xc xl rfl) rfl (by intro y hy;obtain rfl : y = VI.mk xk xb xn xf xt xA xc xl:=(by simpa using hy);exact (HXV.out.grow hB2.out).grow ((Below.refl _ _).alloc (Nat.le_refl _) _)) (by intro y hy;obtain rfl : y = VI.mk xk xb xn xf xt xA xc xl:=(by simpa using hy);exact HXV.out.blk.mono fun b hb e => by have:=(hO2.out.own.lt b e).1;omega) (by have:=HSL.out;omega) (Nat.le_trans hB2.out.size (by simp)) ?_;intro v2 w4 hO3 hK2 _;have HO3:=Ld hO3;have HK2:=Ld ((hB2.out.alloc hB2.out.size _).trans (hK2.belowOwn HO5.out.own (Nat.le_trans hB2.out.size (by simp))));clear hO3 hK2))
          exact ⟨⟨j + 1,_,by omega,by go_num,Ld (HSN.out),HO3,HK2⟩,by simp [intOf];omega⟩
         ·have HSN:=Ld (show S = if ql = 0 then X.take (j + 1) else (X.take (j + 1)).take ql.toNat by rw [if_neg hl0,← take_ge hjx (m:=ql.toNat) (by rw [← HS2.out];omega),← HS2.out])
          clear hl0
          go_wp2
          exact ⟨⟨j + 1,S,by omega,by go_num,Ld (HSN.out),hO2,hB2⟩,by simp [intOf];omega⟩
     ·have HSF:=Ld (show S = if ql = 0 then X else X.take ql.toNat by rw [hS.out,List.take_of_length_le (show X.length ≤ j by omega)])
      have HSM:=Ld (show ∀ x ∈ S,x ∈ R by intro x hx;rw [HSF.out] at hx;split at hx;exact HXM.out x hx;exact HXM.out x (List.mem_of_mem_take hx))
      have HKR:=Ld (kept_rows (t:=⟨tn,cols,keys⟩) (q:=⟨qt,fr,tt,wh,qc,qd,ql,qf,qo,AF,cF,AT,cT,AW,cW,AC,cC⟩) hacc.out HX.out HSF.out hli)
      have HAL2:=Ld (HKR.out ▸ HAL.out)
      go_wp2
      go_ret2
      exact ⟨S,SA,SC,0,rfl,HAL2.out,HSR.out,fun x hx => hrb.out x (HSM.out x hx),fun x hx => hrc.out x (HSM.out x hx),by have:=HSL.out;have:=HRP.out;omega,(fun b o e => by have h1:=(hO2.out.own.lt b (by rw [e];rfl)).1;have h2:=HZ.out;omega),HW4.out⟩
 ·have HAL:=Ld (HPE.out h0)
  have z0:=nz h0
  clear h0
  go_enter Tryz.func43,Tryz.ntmps43
  go_wp2_with (go_at_call 11;go_must (rw [HW0.out];refine (refSpan_c pg wd A c ⟨tn,cols,keys⟩ ⟨qt,fr,tt,wh,qc,qd,ql,qf,qo,AF,cF,AT,cT,AW,cW,AC,cC⟩ W0 (HR.out.below HWB.out) (HQ.out.below HWB.out)).mono ?_;rw [HLO.out,HHI.out,HES.out,HLB.out,HHB.out];rintro e w1 ⟨rfl,hb1⟩;have HB1:=Ld hb1;clear hb1))
  go_ret2
  exact ⟨[],none,0,es,rfl,HAL.out,RdR.nil _ _,by simp,by simp,Nat.zero_le _,(by intro b o e;cases e),HWB.out.trans (HB1.out.mono HWB.out.size)⟩
end
end Go.Proofs.YtonjgedhmmnolaaGreatDoor
