import Derived.Test.YtonjgedhmmnolaaGreatDoorZ22
namespace Go.Proofs.YtonjgedhmmnolaaGreatDoor
section
open Go.RowKit
set_option maxHeartbeats 2000000
set_option maxRecDepth 100000
theorem refCols_c [Inhabited Thr] (A : Option Addr) (c : Nat) (t : TabD) (q : QryV) (w : World) (hR : RdT w A c t) (hQ : RdQ w q) : Calls Tryz.prog 32 #[vT t A c,q.val] w fun e w' => e = .returned (.bool (namedB t q)) ∧ Below w.heap.size w w':=by
 have HR:=Ld hR
 have HQ:=Ld hQ
 have hwb:=hQ.wb
 have hcb:=hQ.cb
 have hfo:=hQ.hf
 rcases t with ⟨tn,cols,keys⟩
 rcases q with ⟨qt,fr,tt,wh,qc,qd,ql,qf,qo,AF,cF,AT,cT,AW,cW,AC,cC⟩
 simp only [QryV.val,QryV.cells] at hwb hcb hfo ⊢
 have HNB:=Ld (show namedB ⟨tn,cols,keys⟩ ⟨qt,fr,tt,wh,qc,qd,ql,qf,qo,AF,cF,AT,cT,AW,cW,AC,cC⟩ = ((wh.all fun c => decide (0 ≤ findC ⟨tn,cols,keys⟩ c.col)) && (qc.all fun s => decide (0 ≤ findC ⟨tn,cols,keys⟩ s)) && (decide (qf = 0) || decide (qf = 1) || decide (0 ≤ findC ⟨tn,cols,keys⟩ qo))) from rfl)
 obtain ⟨W0,hW0⟩ : ∃ W0,(w.alloc (.cells #[.string tn,.slice A cols.length c,.int .i64 keys] 27)).alloc (.cells #[.string qt,.slice AF fr.length cF,.slice AT tt.length cT,.slice AW wh.length cW,.slice AC qc.length cC,.bool qd,.int .i64 ql,.int .u8 qf,.string qo] 33) = W0:=⟨_,rfl⟩
 have HW0:=Ld hW0
 have HBX:=Ld (fun W (h : Below (w.heap.size + 2) W0 W) => boxes_tq (hW0 ▸ h))
 clear hR hQ hW0
 go_enter Tryz.func32,Tryz.ntmps32
 go_upto_region 1 with fail
 rw [HW0.out]
 go_wp2
 go_loopw [5] (fun i wr => ∃ k : Nat,k ≤ wh.length ∧ i = .int .i64 k ∧ Hid ((wh.all fun c => decide (0 ≤ findC ⟨tn,cols,keys⟩ c.col)) = (wh.drop k).all fun c => decide (0 ≤ findC ⟨tn,cols,keys⟩ c.col)) ∧ Hid (Below (w.heap.size + 2) W0 wr)) (fun i _ => wh.length - (intOf i).toNat)
 case atStart => exact ⟨0,Nat.zero_le _,rfl,Ld rfl,Ld (Below.refl _ _)⟩
 case round =>
  obtain ⟨k,hk,rfl,ha,hB⟩:=hrel
  obtain ⟨⟨q0,q1,q2⟩,⟨a0,a1,a2,a3,a4,a5,a6,a7,a8⟩,q3,q4⟩:=HBX.out _ hB.out
  have HW:=Ld q4
  have HZ:=Ld (show w.heap.size + 2 ≤ wr.heap.size from q3)
  clear q4
  have HQr:=Ld (HQ.out.below HW.out)
  by_cases hlt : k < wh.length
  ·obtain ⟨ab,ao,rfl⟩ : ∃ ab ao,AW = some ⟨ab,ao,none⟩:=by obtain ⟨b,o,e,_⟩:=HQr.out.wh.2 (show 0 < wh.length by omega);exact ⟨b,o,e⟩
   have HIT:=Ld (fun W (h : Below wr.heap.size wr W) => cond_at (HQr.out.below h).wh hlt)
   have HBY:=Ld (fun W (h : Below wr.heap.size wr W) => HBX.out W (hB.out.trans (h.mono HZ.out)))
   have HAD:=Ld (all_drop wh (fun c => decide (0 ≤ findC ⟨tn,cols,keys⟩ c.col)) k hlt)
   simp only at HIT
   obtain ⟨x,hx⟩ : ∃ x,wh[k] = x:=⟨_,rfl⟩
   rw [hx] at HAD
   simp only [hx] at HIT
   clear hx
   obtain ⟨fi,hfi⟩ : ∃ fi,findC ⟨tn,cols,keys⟩ x.col = fi:=⟨_,rfl⟩
   have HFI:=Ld hfi
   rcases x with ⟨xc,xk,xi⟩
   simp only at HIT HAD HFI
   rw [HFI.out] at HAD
   clear hfi
   go_upto_region 4 with fail
   clear q0 q1 q2 a0 a1 a2 a3 a4 a5 a6 a7 a8 q3
   refine wp_region_sched (S:=fun W => Below wr.heap.size wr W) [(0,true),(1,true),(2,true),(3,true),(4,true),(5,true),(6,true),(7,false),(8,true)] (by kernel_rfl) (by kernel_rfl) (by kernel_rfl) (fun _ _ d _ _ h => by cases d <;> exact h) (Below.refl _ _).drew ?_
   repeat (apply sched_take;(exact rfl);rfl;(intro W hW;obtain ⟨p0,p1,p2,p3,p4,p5,p6,p7⟩:=HIT.out W hW;obtain ⟨⟨q0,q1,q2⟩,⟨a0,a1,a2,a3,a4,a5,a6,a7,a8⟩,q3,_⟩:=HBY.out W hW;go_simp;(try with_reducible rfl));simp only [Act.put,List.setIfInBounds_toArray,List.set_cons_zero,List.set_cons_succ])
   apply sched_run;(exact rfl);rfl;intro K hK;go_simp
   have hbd:=(Below.refl wr.heap.size wr).drew
   refine (find_c A c ⟨tn,cols,keys⟩ xc _ (HR.out.below (HW.out.trans (hbd.mono HW.out.size)))).mono ?_
   rw [HFI.out]
   rintro e V1 ⟨rfl,hb⟩
   have HB1:=Ld (hbd.trans (hb.mono (show wr.heap.size ≤ _ from hbd.size)))
   clear hbd hb
   refine hK.out _ _ HB1.out (fun _ => ?_)
   clear hK K
   try simp only [Act.put,List.setIfInBounds_toArray,List.set_cons_zero,List.set_cons_succ]
   repeat (apply sched_take;(exact rfl);rfl;(intro W hW;obtain ⟨p0,p1,p2,p3,p4,p5,p6,p7⟩:=HIT.out W hW;obtain ⟨⟨q0,q1,q2⟩,⟨a0,a1,a2,a3,a4,a5,a6,a7,a8⟩,q3,_⟩:=HBY.out W hW;go_simp;(try with_reducible rfl));simp only [Act.put,List.setIfInBounds_toArray,List.set_cons_zero,List.set_cons_succ])
   refine sched_done ?_
   by_cases hf0 : fi < 0
   ·rw [decide_eq_false (by omega)] at HAD
    go_wp2
    go_ret
    exact ⟨ret_eq (by rw [HNB.out,ha.out,HAD.out];simp),HW.out.trans (HB1.out.mono HW.out.size)⟩
   ·rw [decide_eq_true (show 0 ≤ fi by omega)] at HAD
    go_wp2
    exact ⟨⟨k + 1,by omega,by go_num,Ld (by rw [ha.out,HAD.out];rfl),Ld (hB.out.trans (HB1.out.mono HZ.out))⟩,by simp [intOf];omega⟩
  ·have HN:=Ld (show wh.drop k = [] from List.drop_eq_nil_of_le (by omega))
   have HWT:=Ld (ha.out.trans (by rw [HN.out]))
   have HB0:=Ld hB.out
   go_wp2
   clear ha HN hk hB q0 q1 q2 a0 a1 a2 a3 a4 a5 a6 a7 a8 q3 HQr HW HZ hlt
   go_loopw [6] (fun i wr => ∃ k : Nat,k ≤ qc.length ∧ i = .int .i64 k ∧ Hid ((qc.all fun s => decide (0 ≤ findC ⟨tn,cols,keys⟩ s)) = (qc.drop k).all fun s => decide (0 ≤ findC ⟨tn,cols,keys⟩ s)) ∧ Hid (Below (w.heap.size + 2) W0 wr)) (fun i _ => qc.length - (intOf i).toNat)
   case atStart => exact ⟨0,Nat.zero_le _,rfl,Ld rfl,HB0⟩
   case round =>
    obtain ⟨k,hk,rfl,ha,hB⟩:=hrel
    obtain ⟨⟨q0,q1,q2⟩,⟨a0,a1,a2,a3,a4,a5,a6,a7,a8⟩,q3,q4⟩:=HBX.out _ hB.out
    have HW:=Ld q4
    have HZ:=Ld (show w.heap.size + 2 ≤ wr.heap.size from q3)
    clear q4
    have HQr:=Ld (HQ.out.below HW.out)
    by_cases hlt : k < qc.length
    ·obtain ⟨ab,ao,rfl⟩ : ∃ ab ao,AC = some ⟨ab,ao,none⟩:=by obtain ⟨b,o,e,_⟩:=HQr.out.cl.2 (show 0 < qc.length by omega);exact ⟨b,o,e⟩
     have HIT:=Ld (fun W (h : Below wr.heap.size wr W) => str_at (HQr.out.below h).cl hlt)
     have HBY:=Ld (fun W (h : Below wr.heap.size wr W) => HBX.out W (hB.out.trans (h.mono HZ.out)))
     have HAD:=Ld (all_drop qc (fun s => decide (0 ≤ findC ⟨tn,cols,keys⟩ s)) k hlt)
     simp only at HIT
     obtain ⟨xc,hx⟩ : ∃ x,qc[k] = x:=⟨_,rfl⟩
     rw [hx] at HAD
     simp only [hx] at HIT
     clear hx
     obtain ⟨fi,hfi⟩ : ∃ fi,findC ⟨tn,cols,keys⟩ xc = fi:=⟨_,rfl⟩
     have HFI:=Ld hfi
     rw [HFI.out] at HAD
     clear hfi
     go_upto_region 9 with fail
     clear q0 q1 q2 a0 a1 a2 a3 a4 a5 a6 a7 a8 q3
     refine wp_region_sched (S:=fun W => Below wr.heap.size wr W) [(0,true),(1,true),(2,true),(3,true),(4,true),(5,true),(6,false),(7,true)] (by kernel_rfl) (by kernel_rfl) (by kernel_rfl) (fun _ _ d _ _ h => by cases d <;> exact h) (Below.refl _ _).drew ?_
     repeat (apply sched_take;(exact rfl);rfl;(intro W hW;have p0:=HIT.out W hW;obtain ⟨⟨q0,q1,q2⟩,⟨a0,a1,a2,a3,a4,a5,a6,a7,a8⟩,q3,_⟩:=HBY.out W hW;go_simp;(try with_reducible rfl));simp only [Act.put,List.setIfInBounds_toArray,List.set_cons_zero,List.set_cons_succ])
     apply sched_run;(exact rfl);rfl;intro K hK;go_simp
     have hbd:=(Below.refl wr.heap.size wr).drew
     refine (find_c A c ⟨tn,cols,keys⟩ xc _ (HR.out.below (HW.out.trans (hbd.mono HW.out.size)))).mono ?_
     rw [HFI.out]
     rintro e V1 ⟨rfl,hb⟩
     have HB1:=Ld (hbd.trans (hb.mono (show wr.heap.size ≤ _ from hbd.size)))
     clear hbd hb
     refine hK.out _ _ HB1.out (fun _ => ?_)
     clear hK K
     try simp only [Act.put,List.setIfInBounds_toArray,List.set_cons_zero,List.set_cons_succ]
     repeat (apply sched_take;(exact rfl);rfl;(intro W hW;have p0:=HIT.out W hW;obtain ⟨⟨q0,q1,q2⟩,⟨a0,a1,a2,a3,a4,a5,a6,a7,a8⟩,q3,_⟩:=HBY.out W hW;go_simp;(try with_reducible rfl));simp only [Act.put,List.setIfInBounds_toArray,List.set_cons_zero,List.set_cons_succ])
     refine sched_done ?_
     by_cases hf0 : fi < 0
     ·rw [decide_eq_false (by omega)] at HAD
      go_wp2
      go_ret
      exact ⟨ret_eq (by rw [HNB.out,ha.out,HAD.out];simp),HW.out.trans (HB1.out.mono HW.out.size)⟩
     ·rw [decide_eq_true (show 0 ≤ fi by omega)] at HAD
      go_wp2
      exact ⟨⟨k + 1,by omega,by go_num,Ld (by rw [ha.out,HAD.out];rfl),Ld (hB.out.trans (HB1.out.mono HZ.out))⟩,by simp [intOf];omega⟩
    ·have HN:=Ld (show qc.drop k = [] from List.drop_eq_nil_of_le (by omega))
     have HCT:=Ld (ha.out.trans (by rw [HN.out]))
     rw [HWT.out,HCT.out] at HNB
     clear ha HN hk
     by_cases hq : qf < 2
     ·have HF:=Ld (show (decide (qf = 0) || decide (qf = 1) || decide (0 ≤ findC ⟨tn,cols,keys⟩ qo)) = true by
        rcases (show qf = 0 ∨ qf = 1 by omega) with h | h <;> simp [h])
      go_wp2
      go_ret
      exact ⟨ret_eq (by rw [HNB.out,HF.out];rfl),HW.out⟩
     ·rw [decide_eq_false (show ¬ qf = 0 by omega),decide_eq_false (show ¬ qf = 1 by omega)] at HNB
      obtain ⟨fi,hfi⟩ : ∃ fi,findC ⟨tn,cols,keys⟩ qo = fi:=⟨_,rfl⟩
      have HFI:=Ld hfi
      clear hfi
      go_wp2_with (go_at_call 44;go_must (refine (find_c A c ⟨tn,cols,keys⟩ qo _ (HR.out.below HW.out)).mono ?_;rintro e w1 ⟨rfl,hb⟩;rw [HFI.out];have HB1:=Ld hb;clear hb))
      go_ret
      exact ⟨ret_eq (by rw [HNB.out,HFI.out];simp),HW.out.trans (HB1.out.mono HW.out.size)⟩
end
section
open Go.RowKit
set_option maxHeartbeats 2000000
set_option maxRecDepth 100000
theorem one_rd' [Inhabited Thr] {w W : World} {x : VI} (hx : RdV w x) (W0 : World) (hb : Below w.heap.size w W0) {g : Nat} (hg : g = W0.heap.size) {cs : Array Value} (hc : cs = x.cells.toArray) (hW : W = W0.alloc (.cells cs 54)) : RdI W (some ⟨g,0,none⟩) 1 [x]:=by
 subst hc
 exact one_rd hx W0 hb hg hW
theorem refConds_c [Inhabited Thr] (A : Option Addr) (c : Nat) (t : TabD) (q : QryV) (w : World) (hR : RdT w A c t) (hQ : RdQ w q) (hn : 2 ≤ q.fold → 0 ≤ findC t q.over) : Calls Tryz.prog 33 #[vT t A c,q.val] w fun e w' => e = .returned (.bool (q.wh.all condB && foldsB t q)) ∧ Below w.heap.size w w':=by
 have HR:=Ld hR
 have HQ:=Ld hQ
 have HN:=Ld hn
 have hwb:=hQ.wb
 have hcb:=hQ.cb
 have hfo:=hQ.hf
 have hcl:=hR.hb
 rcases t with ⟨tn,cols,keys⟩
 rcases q with ⟨qt,fr,tt,wh,qc,qd,ql,qf,qo,AF,cF,AT,cT,AW,cW,AC,cC⟩
 simp only [QryV.val,QryV.cells] at hwb hcb hfo hcl HN ⊢
 have HFB:=Ld (show foldsB ⟨tn,cols,keys⟩ ⟨qt,fr,tt,wh,qc,qd,ql,qf,qo,AF,cF,AT,cT,AW,cW,AC,cC⟩ = if qf = 0 then decide (qo.data.toList = []) else if qf = 1 then decide (qo.data.toList = []) && decide (qc.length = 0)
  else if qf = 4 ∨ qf = 5 then (decide (kindAt ⟨tn,cols,keys⟩ (findC ⟨tn,cols,keys⟩ qo) = 3) || decide (kindAt ⟨tn,cols,keys⟩ (findC ⟨tn,cols,keys⟩ qo) = 4)) && decide (qc.length = 0)
  else if qf = 2 ∨ qf = 3 then decide (qc.length = 0) else false from rfl)
 have HEM:=Ld (emptyB qo)
 obtain ⟨W0,hW0⟩ : ∃ W0,(w.alloc (.cells #[.string tn,.slice A cols.length c,.int .i64 keys] 27)).alloc (.cells #[.string qt,.slice AF fr.length cF,.slice AT tt.length cT,.slice AW wh.length cW,.slice AC qc.length cC,.bool qd,.int .i64 ql,.int .u8 qf,.string qo] 33) = W0:=⟨_,rfl⟩
 have HW0:=Ld hW0
 have HBX:=Ld (fun W (h : Below (w.heap.size + 2) W0 W) => boxes_tq (hW0 ▸ h))
 clear hR hQ hn hW0
 obtain ⟨FB,hFB⟩ : ∃ b,foldsB ⟨tn,cols,keys⟩ ⟨qt,fr,tt,wh,qc,qd,ql,qf,qo,AF,cF,AT,cT,AW,cW,AC,cC⟩ = b:=⟨_,rfl⟩
 rw [hFB] at HFB ⊢
 clear hFB
 go_enter Tryz.func33,Tryz.ntmps33
 go_upto_region 1 with fail
 rw [HW0.out]
 go_wp2
 go_loopw [5] (fun i wr => ∃ k : Nat,k ≤ wh.length ∧ i = .int .i64 k ∧ Hid (wh.all condB = (wh.drop k).all condB) ∧ Hid (Below (w.heap.size + 2) W0 wr)) (fun i _ => wh.length - (intOf i).toNat)
 case atStart => exact ⟨0,Nat.zero_le _,rfl,Ld rfl,Ld (Below.refl _ _)⟩
 case round =>
  obtain ⟨k,hk,rfl,ha,hB⟩:=hrel
  obtain ⟨⟨q0,q1,q2⟩,⟨a0,a1,a2,a3,a4,a5,a6,a7,a8⟩,q3,q4⟩:=HBX.out _ hB.out
  have HW:=Ld q4
  have HZ:=Ld (show w.heap.size + 2 ≤ wr.heap.size from q3)
  clear q4
  have HQr:=Ld (HQ.out.below HW.out)
  by_cases hlt : k < wh.length
  ·obtain ⟨ab,ao,rfl⟩ : ∃ ab ao,AW = some ⟨ab,ao,none⟩:=by obtain ⟨b,o,e,_⟩:=HQr.out.wh.2 (show 0 < wh.length by omega);exact ⟨b,o,e⟩
   obtain ⟨p0,p1,p2,p3,p4,p5,p6,p7⟩:=cond_at HQr.out.wh hlt
   have HAD:=Ld (all_drop wh condB k hlt)
   have HX:=Ld (HQr.out.wx _ (List.getElem_mem hlt))
   simp only at p0 p1 p2 p3 p4 p5 p6 p7 HX
   obtain ⟨x,hx⟩ : ∃ x,wh[k] = x:=⟨_,rfl⟩
   simp only [hx] at p0 p1 p2 p3 p4 p5 p6 p7 HX HAD
   clear hx
   rcases x with ⟨xc,xk,⟨yk,yb,yn,yf,yt,yA,yc,yl⟩⟩
   simp only [VI.k,VI.b,VI.n,VI.f,VI.t,VI.A,VI.c,VI.l] at p0 p1 p2 p3 p4 p5 p6 p7
   have HCB:=Ld (show condB ⟨xc,xk,.mk yk yb yn yf yt yA yc yl⟩ = (decide (1 ≤ xk) && decide (xk ≤ 6) && decide (chkL (VI.dataL [VI.mk yk yb yn yf yt yA yc yl]) = 0)) from rfl)
   go_upto_region 5 with fail
   have hc0:=heap_alloc_new wr (.cells (c8 xc xk yk yb yn yf yt yA yl.length yc) 69)
   have ha0:=(Below.refl wr.heap.size wr).alloc (Nat.le_refl _) (.cells (c8 xc xk yk yb yn yf yt yA yl.length yc) 69)
   obtain ⟨V0,hV0⟩ : ∃ V0,wr.alloc (.cells (c8 xc xk yk yb yn yf yt yA yl.length yc) 69) = V0:=⟨_,rfl⟩
   rw [show wr.alloc (.cells #[.string xc,.int .u8 xk,.int .u8 yk,.bool yb,.int .i64 yn,.float .f64 yf,.string yt,.slice yA yl.length yc] 69) = V0 from hV0]
   rw [hV0] at hc0 ha0
   clear hV0 p0 p1 p2 p3 p4 p5 p6 p7 q0 q1 q2 a0 a1 a2 a3 a4 a5 a6 a7 a8 q3
   have HA0:=Ld ha0
   obtain ⟨p0,p1,p2,p3,p4,p5,p6,p7⟩:=box8 hc0
   clear hc0 ha0
   have HFIN:=Ld (fun W (h : Below wr.heap.size wr W) => HW.out.trans (h.mono HW.out.size))
   have HNXT:=Ld (fun W (h : Below wr.heap.size wr W) => hB.out.trans (h.mono HZ.out))
   by_cases h1 : xk < 1
   ·have HV:=Ld (show condB ⟨xc,xk,.mk yk yb yn yf yt yA yc yl⟩ = false by rw [HCB.out,decide_eq_false (show ¬ 1 ≤ xk by omega)];simp)
    clear HCB
    go_wp2
    go_ret
    exact ⟨ret_eq (by rw [ha.out,HAD.out,HV.out];rfl),HFIN.out _ HA0.out⟩
   ·by_cases h6 : 6 < xk
    ·have HV:=Ld (show condB ⟨xc,xk,.mk yk yb yn yf yt yA yc yl⟩ = false by rw [HCB.out,decide_eq_false (show ¬ xk ≤ 6 by omega)];simp)
     clear HCB
     go_wp2
     go_ret
     exact ⟨ret_eq (by rw [ha.out,HAD.out,HV.out];rfl),HFIN.out _ HA0.out⟩
    ·rw [decide_eq_true (show 1 ≤ xk by omega),decide_eq_true (show xk ≤ 6 by omega)] at HCB
     obtain ⟨ch,hch⟩ : ∃ n,chkL (VI.dataL [VI.mk yk yb yn yf yt yA yc yl]) = n:=⟨_,rfl⟩
     have HCH:=Ld hch
     rw [hch] at HCB
     clear hch
     by_cases h0 : ch = 0
     ·have e0 : ((ch : Int) != 0) = false:=by simp [h0]
      have HV:=Ld (show condB ⟨xc,xk,.mk yk yb yn yf yt yA yc yl⟩ = true by rw [HCB.out,decide_eq_true h0];rfl)
      clear h0 HCB
      go_wp2_with (go_at_call 64;go_must (refine (refCheck_c (some ⟨V0.heap.size,0,none⟩) 1 [VI.mk yk yb yn yf yt yA yc yl] _ (one_rd' (cs:=#[.int .u8 yk,.bool yb,.int .i64 yn,.float .f64 yf,.string yt,.slice yA yl.length yc]) HX.out.1 V0 HA0.out rfl rfl rfl)).mono ?_;rw [HCH.out];rintro e w1 ⟨rfl,hb⟩;have HB1:=Ld ((HA0.out.trans (((Below.refl V0.heap.size V0).alloc (Nat.le_refl _) _).mono HA0.out.size)).trans (hb.mono (Nat.le_trans HA0.out.size (by simp))));clear hb p0 p1 p2 p3 p4 p5 p6 p7))
      exact ⟨⟨k + 1,by omega,by go_num,Ld (by rw [ha.out,HAD.out,HV.out];rfl),Ld (HNXT.out _ HB1.out)⟩,by simp [intOf];omega⟩
     ·have e0 : ((ch : Int) != 0) = true:=by simp [h0]
      have HV:=Ld (show condB ⟨xc,xk,.mk yk yb yn yf yt yA yc yl⟩ = false by rw [HCB.out,decide_eq_false h0];rfl)
      clear h0 HCB
      go_wp2_with (go_at_call 64;go_must (refine (refCheck_c (some ⟨V0.heap.size,0,none⟩) 1 [VI.mk yk yb yn yf yt yA yc yl] _ (one_rd' (cs:=#[.int .u8 yk,.bool yb,.int .i64 yn,.float .f64 yf,.string yt,.slice yA yl.length yc]) HX.out.1 V0 HA0.out rfl rfl rfl)).mono ?_;rw [HCH.out];rintro e w1 ⟨rfl,hb⟩;have HB1:=Ld ((HA0.out.trans (((Below.refl V0.heap.size V0).alloc (Nat.le_refl _) _).mono HA0.out.size)).trans (hb.mono (Nat.le_trans HA0.out.size (by simp))));clear hb p0 p1 p2 p3 p4 p5 p6 p7))
      go_ret
      exact ⟨ret_eq (by rw [ha.out,HAD.out,HV.out];rfl),HFIN.out _ HB1.out⟩
  ·have HDN:=Ld (show wh.drop k = [] from List.drop_eq_nil_of_le (by omega))
   have HWT:=Ld (show wh.all condB = true by rw [ha.out,HDN.out];rfl)
   clear ha HDN hk hwb
   obtain ⟨eb,heb⟩ : ∃ eb,(qo.toList == []) = eb:=⟨_,rfl⟩
   have HEB:=Ld heb
   rw [← HEM.out,HEB.out] at HFB
   have hl2 : (0 : Int) < (qc.length : Int) ∨ ¬ (0 : Int) < (qc.length : Int):=by omega
   rcases (show qf = 0 ∨ qf = 1 ∨ qf = 2 ∨ qf = 3 ∨ qf = 4 ∨ qf = 5 ∨ 5 < qf by omega) with rfl | rfl | rfl | rfl | rfl | rfl | hq
   ·have HV:=Ld (show FB = eb by rw [HFB.out];rfl)
    clear HFB
    cases eb
    all_goals
     go_wp2
     go_ret
     exact ⟨ret_eq (by rw [HWT.out,HV.out];rfl),HW.out⟩
   ·have HV:=Ld (show FB = (eb && decide (qc.length = 0)) by rw [HFB.out];rfl)
    clear HFB
    cases eb
    ·go_wp2
     go_ret
     exact ⟨ret_eq (by rw [HWT.out,HV.out];rfl),HW.out⟩
    ·rcases hl2 with hl | hl
     ·have HLZ:=Ld (decide_eq_false (show ¬ qc.length = 0 by omega))
      go_wp2
      go_ret
      exact ⟨ret_eq (by rw [HWT.out,HV.out,HLZ.out];rfl),HW.out⟩
     ·have HLZ:=Ld (decide_eq_true (show qc.length = 0 by omega))
      go_wp2
      go_ret
      exact ⟨ret_eq (by rw [HWT.out,HV.out,HLZ.out];rfl),HW.out⟩
   iterate 2
    ·have HV:=Ld (show FB = decide (qc.length = 0) by rw [HFB.out];rfl)
     clear HFB
     rcases hl2 with hl | hl
     ·have HLZ:=Ld (decide_eq_false (show ¬ qc.length = 0 by omega))
      go_wp2
      go_ret
      exact ⟨ret_eq (by rw [HWT.out,HV.out,HLZ.out];rfl),HW.out⟩
     ·have HLZ:=Ld (decide_eq_true (show qc.length = 0 by omega))
      go_wp2
      go_ret
      exact ⟨ret_eq (by rw [HWT.out,HV.out,HLZ.out];rfl),HW.out⟩
   iterate 2
    ·have HV:=Ld (show FB = ((decide (kindAt ⟨tn,cols,keys⟩ (findC ⟨tn,cols,keys⟩ qo) = 3) || decide (kindAt ⟨tn,cols,keys⟩ (findC ⟨tn,cols,keys⟩ qo) = 4)) && decide (qc.length = 0)) by rw [HFB.out];rfl)
     clear HFB
     rcases hl2 with hl | hl
     ·have HLZ:=Ld (decide_eq_false (show ¬ qc.length = 0 by omega))
      go_wp2
      go_ret
      exact ⟨ret_eq (by rw [HWT.out,HV.out,HLZ.out];simp),HW.out⟩
     ·have HLZ:=Ld (decide_eq_true (show qc.length = 0 by omega))
      have HFD:=Ld (HN.out (by decide))
      have HLT:=Ld (findL_lt cols qo.data.toList 0 HFD.out)
      obtain ⟨fi,hfi⟩ : ∃ fi : Int,findC ⟨tn,cols,keys⟩ qo = fi:=⟨_,rfl⟩
      obtain ⟨j,hj⟩ : ∃ j : Nat,(j : Int) = fi:=⟨fi.toNat,by have:=HFD.out;omega⟩
      have hjc : j < cols.length:=by have h2:=HLT.out.2;have h3 : findL cols qo.data.toList 0 = fi:=hfi;omega
      have HFI:=Ld (show findC ⟨tn,cols,keys⟩ qo = (j : Int) by rw [hfi,hj])
      rw [HFI.out] at HV
      clear hfi hj HFD HLT
      have HRr:=Ld (HR.out.below HW.out)
      obtain ⟨ab,ao,rfl⟩ : ∃ ab ao,A = some ⟨ab,ao,none⟩:=by obtain ⟨b,o,e,_⟩:=HR.out.rd.2 (show 0 < cols.length by omega);exact ⟨b,o,e⟩
      obtain ⟨kd,hkd⟩ : ∃ kd,cols[j].kind = kd:=⟨_,rfl⟩
      have HCO:=Ld (fun W (h : Below wr.heap.size wr W) => (col_at (HRr.out.below h).rd hjc).2.1)
      have HKA:=Ld (show kindAt ⟨tn,cols,keys⟩ (j : Int) = kd by simp [kindAt,hjc,hkd])
      simp only [hkd] at HCO
      rw [HKA.out,HLZ.out] at HV
      have HBY:=Ld (fun W (h : Below wr.heap.size wr W) => HBX.out W (hB.out.trans (h.mono HZ.out)))
      clear hkd
      go_upto_region 11 with fail
      clear q0 q1 q2 a0 a1 a2 a3 a4 a5 a6 a7 a8 q3
      refine wp_region_sched (S:=fun W => Below wr.heap.size wr W) [(0,true),(1,true),(2,true),(3,true),(4,true),(5,false),(6,true),(7,true),(8,true),(9,true)] (by kernel_rfl) (by kernel_rfl) (by kernel_rfl) (fun _ _ d _ _ h => by cases d <;> exact h) (Below.refl _ _).drew ?_
      repeat (apply sched_take;(exact rfl);rfl;(intro W hW;have p0:=HCO.out W hW;obtain ⟨⟨q0,q1,q2⟩,⟨a0,a1,a2,a3,a4,a5,a6,a7,a8⟩,q3,_⟩:=HBY.out W hW;go_simp;(try with_reducible rfl));simp only [Act.put,List.setIfInBounds_toArray,List.set_cons_zero,List.set_cons_succ])
      apply sched_run;(exact rfl);rfl;intro K hK;go_simp
      have hbd:=(Below.refl wr.heap.size wr).drew
      refine (find_c _ c ⟨tn,cols,keys⟩ qo _ (HR.out.below (HW.out.trans (hbd.mono HW.out.size)))).mono ?_
      rw [HFI.out]
      rintro e V1 ⟨rfl,hb⟩
      have HB1:=Ld (hbd.trans (hb.mono (show wr.heap.size ≤ _ from hbd.size)))
      clear hbd hb
      refine hK.out _ _ HB1.out (fun _ => ?_)
      clear hK K
      try simp only [Act.put,List.setIfInBounds_toArray,List.set_cons_zero,List.set_cons_succ]
      repeat (apply sched_take;(exact rfl);rfl;(intro W hW;have p0:=HCO.out W hW;obtain ⟨⟨q0,q1,q2⟩,⟨a0,a1,a2,a3,a4,a5,a6,a7,a8⟩,q3,_⟩:=HBY.out W hW;go_simp;(try with_reducible rfl));simp only [Act.put,List.setIfInBounds_toArray,List.set_cons_zero,List.set_cons_succ])
      refine sched_done ?_
      by_cases k3 : kd = 3
      ·have e3 : (kd == 3) = true:=by simpa using k3
       rw [decide_eq_true k3] at HV
       clear k3
       go_wp2
       go_ret
       exact ⟨ret_eq (by rw [HWT.out,HV.out];rfl),HW.out.trans (HB1.out.mono HW.out.size)⟩
      ·have e3 : (kd == 3) = false:=by simpa using k3
       rw [decide_eq_false k3] at HV
       clear k3
       by_cases k4 : kd = 4
       ·have e4 : (kd == 4) = true:=by simpa using k4
        rw [decide_eq_true k4] at HV
        clear k4
        go_wp2
        go_ret
        exact ⟨ret_eq (by rw [HWT.out,HV.out];rfl),HW.out.trans (HB1.out.mono HW.out.size)⟩
       ·have e4 : (kd == 4) = false:=by simpa using k4
        rw [decide_eq_false k4] at HV
        clear k4
        go_wp2
        go_ret
        exact ⟨ret_eq (by rw [HWT.out,HV.out];rfl),HW.out.trans (HB1.out.mono HW.out.size)⟩
   ·have HV:=Ld (show FB = false by rw [HFB.out,if_neg (by omega),if_neg (by omega),if_neg (by omega),if_neg (by omega)])
    clear HFB
    go_wp2
    go_ret
    exact ⟨ret_eq (by rw [HWT.out,HV.out];rfl),HW.out⟩
end
end Go.Proofs.YtonjgedhmmnolaaGreatDoor
