import Derived.Test.YtonjgedhmmnolaaGreatDoorZS4
import Derived.Test.YtonjgedhmmnolaaGreatDoorZZ15
import Derived.Test.YtonjgedhmmnolaaGreatDoorZ14
namespace Go.Proofs.YtonjgedhmmnolaaGreatDoor
section
open Go.RowKit
set_option maxHeartbeats 3000000
set_option maxRecDepth 100000
theorem in_cells' {W : World} {g : Nat} {a0 a1 a2 a3 a4 a5 a6 a7 a8 a9 a10 a11 a12 a13 a14 a15 a16 : Value} (h : W.heap[g]? = some (.cells #[a0,a1,a2,a3,a4,a5,a6,a7,a8,a9,a10,a11,a12,a13,a14,a15,a16] 37 (0,0))) :
 W.cell? ⟨g,0,none⟩ = some a0 ∧ W.cell? ⟨g,1,none⟩ = some a1 ∧ W.cell? ⟨g,2,none⟩ = some a2 ∧ W.cell? ⟨g,3,none⟩ = some a3 ∧ W.cell? ⟨g,4,none⟩ = some a4 ∧ W.cell? ⟨g,5,none⟩ = some a5 ∧ W.cell? ⟨g,6,none⟩ = some a6 ∧ W.cell? ⟨g,7,none⟩ = some a7 ∧ W.cell? ⟨g,8,none⟩ = some a8 ∧ W.cell? ⟨g,9,none⟩ = some a9 ∧ W.cell? ⟨g,10,none⟩ = some a10 ∧ W.cell? ⟨g,11,none⟩ = some a11 ∧ W.cell? ⟨g,12,none⟩ = some a12 ∧ W.cell? ⟨g,13,none⟩ = some a13 ∧ W.cell? ⟨g,14,none⟩ = some a14 ∧ W.cell? ⟨g,15,none⟩ = some a15 ∧ W.cell? ⟨g,16,none⟩ = some a16 ∧ g < W.heap.size :=
 ⟨cell_of_row _ _ 0 _ _ _ h,cell_of_row _ _ 1 _ _ _ h,cell_of_row _ _ 2 _ _ _ h,cell_of_row _ _ 3 _ _ _ h,cell_of_row _ _ 4 _ _ _ h,cell_of_row _ _ 5 _ _ _ h,cell_of_row _ _ 6 _ _ _ h,cell_of_row _ _ 7 _ _ _ h,cell_of_row _ _ 8 _ _ _ h,cell_of_row _ _ 9 _ _ _ h,cell_of_row _ _ 10 _ _ _ h,cell_of_row _ _ 11 _ _ _ h,cell_of_row _ _ 12 _ _ _ h,cell_of_row _ _ 13 _ _ _ h,cell_of_row _ _ 14 _ _ _ h,cell_of_row _ _ 15 _ _ _ h,cell_of_row _ _ 16 _ _ _ h,(Array.getElem?_eq_some_iff.1 h).1⟩
theorem infoP' : (Tryz.prog.info? 56).map (fun i => (i.zero,i.size,i.bytes)) = some (some (.agg #[.string ⟨#[]⟩,.string ⟨#[]⟩]),2,32):=by kernel_rfl
theorem pcells_one' (l : List (ByteArray × ByteArray)) : ∀ u ∈ pcells l,u.oneCell' = true:=by
 intro u hu
 simp only [pcells,List.mem_flatMap,pcell,List.mem_cons,List.not_mem_nil,or_false] at hu
 obtain ⟨x,_,h⟩:=hu
 rcases h with rfl | rfl <;> rfl
theorem pcells_app' (a b : List (ByteArray × ByteArray)) : pcells (a ++ b) = pcells a ++ pcells b:=List.flatMap_append
theorem pcells_len (l : List (ByteArray × ByteArray)) : (pcells l).length = l.length * 2:=by
 induction l with
 | nil => rfl
 | cons x l ih => simp only [pcells,List.flatMap_cons,List.length_append,List.length_cons] at ih ⊢;rw [ih];simp [pcell];omega
theorem wpList_pairs {ops : Array Oper} {rest : List Oper} {o : Oper} {a : Act} {w : World} {Q : Exit → Act → World → Prop} {B : Nat} {v : Value} {X Y : List (ByteArray × ByteArray)} (hgd : o.guard = none) (s y : Operand)
 (ho : o.op = .call { callee:=.builtin .append,args:=#[s,y],argTypes:=#[34,34] }) (hO : w.ownsRow B 56 2 v X.length (pcells X)) (hs : a.eval s = v)
 {A : Option Addr} {m c : Nat} (hy : a.eval y = .slice A m c) (hm : m = Y.length) (hr : Rd w 2 A Y.length (pcells Y)) (hl : (X.length + Y.length) * 32 ≤ 140737488355328) (hB : B ≤ w.heap.size)
 (h : ∀ v' w',w'.ownsRow B 56 2 v' (X ++ Y).length (pcells (X ++ Y)) → Kept (fun k => v.ownBlock = some k) w w' → wpList Tryz.prog ops Q rest (a.put o.dst v') w') : wpList Tryz.prog ops Q (o :: rest) a w :=
 wpList_plain hgd fun K hK => by
  subst hm
  obtain ⟨i0,hi,hz0,hz1,hz2⟩:=info_parts infoP'
  refine wp_append_rd s y 34 ho B 56 Tryz.underlying34 hi hz0 hz1 hz2 rfl (by decide) hs hO hy hr (pcells_one' _) hl (by decide) hB ?_
  intro v' w' h2 h3 _
  exact hK _ _ (h v' w' (by rw [List.length_append,pcells_app'];exact h2) ((Kept.refl _ w).grown h3 (fun k hk _ => hk)))
abbrev markT : ByteArray:=⟨#[109,97,114,107]⟩
theorem mark_rd (w : World) {g : Nat} (hg : g = w.heap.size) : Rd (w.alloc (.cells #[.string markT,.string ⟨#[]⟩] 56)) 2 (some ⟨g,0,none⟩) [(markT,(⟨#[]⟩ : ByteArray))].length (pcells [(markT,⟨#[]⟩)]):=by
 subst hg
 refine ⟨rfl,fun _ => ⟨w.heap.size,0,rfl,fun j u hu => ?_⟩⟩
 rw [Nat.zero_add,cell_of_row _ _ j _ _ _ (heap_alloc_new w _)]
 exact (show (#[Value.string markT,Value.string ⟨#[]⟩])[j]? = (pcells [(markT,⟨#[]⟩)])[j]? by simp [pcells,pcell]).trans hu
theorem marked {w : World} {g n c B : Nat} {P : List (ByteArray × ByteArray)} {m : ByteArray × ByteArray} (h : w.ownsRow B 56 2 (.slice (some ⟨g,0,none⟩) n c) n (pcells (P ++ [m]))) (hn : n = P.length + 1) (hb : P.length * 32 ≤ 140737488355328) (hx : ∀ p ∈ P,p.1.size ≤ 140737488355328 ∧ p.2.size ≤ 140737488355328) :
 RdP w (some ⟨g,0,none⟩) c P ∧ Rd w 2 (some ⟨g,0,none⟩) (P ++ [m]).length (pcells (P ++ [m])):=by
 subst hn
 obtain ⟨hc,hr⟩:=own_rd' h
 refine ⟨⟨⟨pcells_len P,fun hp => ?_⟩,by omega,hb,hx⟩,by rw [List.length_append];exact hr⟩
 obtain ⟨b,o,e,hcell⟩:=hr.2 (by omega)
 exact ⟨b,o,e,fun j u hu => hcell j u (by
  rw [pcells_app',List.getElem?_append_left (List.getElem?_eq_some_iff.1 hu).1]
  exact hu)⟩
set_option maxHeartbeats 6000000 in
theorem picks_law [Inhabited Thr] (x : InV) (w : World) (hthr : thr ≤ w.heap.size) (hX : RdX w x) (hn : x.P.length ≤ 1048576) (hqn : x.q.cols.length ≤ 1048576) (hc : ∃ m,w.cell? ⟨1,0,none⟩ = some (.int .i64 m)) : Calls Tryz.prog 7 #[x.val] w fun e w' => e = .returned (.bool true) ∧ Below w.heap.size w w':=by
 have HX:=Ld hX
 have HC:=Ld hc
 have HN:=Ld hn
 have HQN:=Ld hqn
 have HTH:=Ld hthr
 rcases x with ⟨pg,wd,⟨tn,cols,keys⟩,A,c,⟨qt,fr,tt,wh,qc,qd,ql,qf,qo,AF,cF,AT,cT,AW,cW,AC,cC⟩,P,AP,cP,AR,nR,cR,pf⟩
 rw [show InV.val ⟨pg,wd,⟨tn,cols,keys⟩,A,c,⟨qt,fr,tt,wh,qc,qd,ql,qf,qo,AF,cF,AT,cT,AW,cW,AC,cC⟩,P,AP,cP,AR,nR,cR,pf⟩ = .agg #[.int .i64 pg,.int .i64 wd,.string tn,.slice A cols.length c,.int .i64 keys,.string qt,.slice AF fr.length cF,.slice AT tt.length cT,.slice AW wh.length cW,.slice AC qc.length cC,.bool qd,.int .i64 ql,.int .u8 qf,.string qo,.slice AP P.length cP,.slice AR nR cR,.string pf] from rfl]
 simp only at HN HQN
 have hpl : P.length ≤ 1048576:=HN.out
 have HCB:=Ld (show qc.length * 64 ≤ 140737488355328 by have:=HQN.out;omega)
 have HR0:=Ld (heap_alloc_new w (.cells #[.int .i64 pg,.int .i64 wd,.string tn,.slice A cols.length c,.int .i64 keys,.string qt,.slice AF fr.length cF,.slice AT tt.length cT,.slice AW wh.length cW,.slice AC qc.length cC,.bool qd,.int .i64 ql,.int .u8 qf,.string qo,.slice AP P.length cP,.slice AR nR cR,.string pf] 37))
 have HB0:=Ld ((Below.refl w.heap.size w).alloc (Nat.le_refl _) (.cells #[.int .i64 pg,.int .i64 wd,.string tn,.slice A cols.length c,.int .i64 keys,.string qt,.slice AF fr.length cF,.slice AT tt.length cT,.slice AW wh.length cW,.slice AC qc.length cC,.bool qd,.int .i64 ql,.int .u8 qf,.string qo,.slice AP P.length cP,.slice AR nR cR,.string pf] 37))
 obtain ⟨W0,hW0⟩ : ∃ W0,w.alloc (.cells #[.int .i64 pg,.int .i64 wd,.string tn,.slice A cols.length c,.int .i64 keys,.string qt,.slice AF fr.length cF,.slice AT tt.length cT,.slice AW wh.length cW,.slice AC qc.length cC,.bool qd,.int .i64 ql,.int .u8 qf,.string qo,.slice AP P.length cP,.slice AR nR cR,.string pf] 37) = W0:=⟨_,rfl⟩
 have HW0:=Ld hW0
 rw [HW0.out] at HR0 HB0
 clear hX hc hW0 hn hqn hthr
 go_enter Tryz.func7,Tryz.ntmps7
 go_upto_if 13 with (go_at_call 9;go_must (rw [HW0.out];refine (vast_c ⟨qt,fr,tt,wh,qc,qd,ql,qf,qo,AF,cF,AT,cT,AW,cW,AC,cC⟩ W0 (HX.out.q.below HB0.out)).mono ?_;rintro e w1 ⟨⟨b,rfl⟩,hb⟩;have HR1:=Ld (row_keep' HR0.out hb);have HB1:=Ld (HB0.out.trans (hb.mono HB0.out.size));clear hb))
 obtain ⟨x0,x1,x2,x3,x4,x5,x6,x7,x8,x9,x10,x11,x12,x13,x14,x15,x16,z0⟩:=in_cells' HR1.out
 cases b with
 | true =>
   go_wp2_with (go_at_call 8;go_must (refine (awake_c w1 (cell_keep HC.out (Nat.le_refl _) HB1.out)).mono ?_;rintro e w2 ⟨rfl,hb⟩;have HB2:=Ld (HB1.out.trans (hb.mono HB1.out.size));clear hb x0 x1 x2 x3 x4 x5 x6 x7 x8 x9 x10 x11 x12 x13 x14 x15 x16 z0))
   go_ret
   exact ⟨rfl,HB2.out⟩
 | false =>
   have HP1:=Ld (HX.out.p.below HB1.out)
   go_upto_region 5 with (at_builtin;go_must (refine wpList_pairs (B:=w1.heap.size) (X:=[]) (Y:=P) rfl (.tmp 15) (.tmp 17) rfl (World.ownsRow_nil _ _ _ _) rfl rfl rfl HP1.out.rd (by simp only [List.length_nil];omega) (Nat.le_refl _) ?_;intro v1 w2 hO hk;have HO2:=Ld hO;have HB12:=Ld (hk.below (B:=w1.heap.size) (Nat.le_refl _) (fun k _ e => by cases e));clear hO hk x0 x1 x2 x3 x4 x5 x6 x7 x8 x9 x10 x11 x12 x13 x14 x15 x16 z0))
   have HR2:=Ld (row_keep' HR1.out HB12.out)
   have HB2:=Ld (HB1.out.trans (HB12.out.mono HB1.out.size))
   have HO2b:=Ld (HO2.out.alloc (.cells #[.string markT,.string ⟨#[]⟩] 56))
   have hw12:=HB12.out.size
   go_upto_region 6 with (at_builtin;go_must (refine wpList_pairs (B:=w1.heap.size) (X:=[] ++ P) (Y:=[(markT,⟨#[]⟩)]) rfl (.tmp 19) (.tmp 21) rfl HO2b.out rfl rfl rfl (mark_rd w2 rfl) (by simp only [List.length_append,List.length_cons,List.length_nil];omega) (Nat.le_trans hw12 (by simp)) ?_;intro v2 w3 hO hk;have HO3:=Ld hO;have HB23:=Ld (show Below w1.heap.size w2 w3 from (((Below.refl w2.heap.size w2).alloc (Nat.le_refl _) _).mono hw12).trans (hk.belowOwn HO2b.out (Nat.le_trans hw12 (by simp))));clear hO hk))
   have hz3 : w.heap.size + 1 ≤ w1.heap.size:=(Array.getElem?_eq_some_iff.1 HR1.out).1
   have HR3:=Ld ((HB23.out.block _ (by omega)).trans HR2.out)
   have HB3:=Ld (HB2.out.trans (HB23.out.mono (by omega)))
   rw [List.nil_append] at HO3
   obtain ⟨g,cap,hv2⟩ : ∃ g cap,v2 = .slice (some ⟨g,0,none⟩) (P.length + 1) cap:=by
    rcases HO3.out.2 with ⟨_,h0⟩ | ⟨g,cap,cur,h1,_⟩
    ·simp at h0
    ·exact ⟨g,cap,by rw [h1];simp⟩
   subst hv2
   have HO3b:=Ld (show w3.ownsRow w1.heap.size 56 2 (.slice (some ⟨g,0,none⟩) (P.length + 1) cap) (P.length + 1) (pcells (P ++ [(markT,⟨#[]⟩)])) by have:=HO3.out;rw [List.length_append] at this;exact this)
   have HM:=Ld (marked (n:=P.length + 1) (P:=P) HO3b.out rfl (by omega) (show ∀ p ∈ P,p.1.size ≤ 140737488355328 ∧ p.2.size ≤ 140737488355328 from HX.out.p.hx))
   have hcap : P.length + 1 ≤ cap:=(own_rd' HO3b.out).1
   have HCAP:=Ld hcap
   have HZ3:=Ld (show w.heap.size ≤ w3.heap.size from HB3.out.size)
   clear hz3 hw12
   have hsl : ∀ W,(Instr.slice 34 (.slice (some ⟨g,0,none⟩) (P.length + 1) cap) none (some (.int .i64 P.length)) none).run Tryz.prog W = .ok (.slice (some ⟨g,0,none⟩) P.length cap) W:=slice_to (P:=Tryz.prog) 34 Tryz.underlying34 ⟨2,fun W => by kernel_rfl⟩ g 0 (P.length + 1) cap P.length P.length rfl (by omega)
   have HRW:=Ld (fun W (h : Below w3.heap.size w3 W) => row_keep' HR3.out h)
   refine wp_region_sched (S:=fun W => Below w3.heap.size w3 W) [(0,true),(1,true),(2,true),(3,true),(4,true),(5,true),(6,true),(7,true),(8,true),(9,true),(10,true),(11,false),(12,true),(13,true),(14,true),(15,true),(16,true)] (by kernel_rfl) (by kernel_rfl) (by kernel_rfl) (fun _ _ d _ _ h => by cases d <;> exact h) (Below.refl _ _).drew ?_
   repeat (apply sched_take;(exact rfl);rfl;(intro W hW;obtain ⟨x0,x1,x2,x3,x4,x5,x6,x7,x8,x9,x10,x11,x12,x13,x14,x15,x16,z0⟩:=in_cells' (HRW.out W hW);go_simp;(try with_reducible rfl));simp only [Act.put,List.setIfInBounds_toArray,List.set_cons_zero,List.set_cons_succ])
   apply sched_run;(exact rfl);rfl;intro K hK;go_simp
   have hbd:=(Below.refl w3.heap.size w3).drew
   have hbw:=HB3.out.trans (hbd.mono HB3.out.size)
   refine (Pick_c pg wd A c ⟨tn,cols,keys⟩ ⟨qt,fr,tt,wh,qc,qd,ql,qf,qo,AF,cF,AT,cT,AW,cW,AC,cC⟩ (some ⟨g,0,none⟩) cap P _ (HX.out.t.below hbw) (HX.out.q.below hbw) (HM.out.1.below hbd) (cell_keep HC.out (Nat.le_refl _) hbw) (fun _ => by omega) HCB.out).mono ?_
   rintro e w4 ⟨R4,A4,c4,n4,rfl,hok,hrd,hown,hbk,hb⟩
   have HOK4:=Ld hok
   have HRD4:=Ld hrd
   have HOW4:=Ld (show OwnR w4 w3.heap.size _ R4 from hown)
   have HBK4:=Ld (show ∀ x ∈ R4,BlkV (fun k => w3.heap.size ≤ k) x from hbk)
   have HB34:=Ld (hbd.trans (hb.mono hbd.size))
   clear hok hrd hown hbk hb hbd hbw
   refine hK.out _ _ HB34.out (fun _ => ?_)
   clear hK K
   try simp only [Act.put,List.setIfInBounds_toArray,List.set_cons_zero,List.set_cons_succ]
   repeat (apply sched_take;(exact rfl);rfl;(intro W hW;obtain ⟨x0,x1,x2,x3,x4,x5,x6,x7,x8,x9,x10,x11,x12,x13,x14,x15,x16,z0⟩:=in_cells' (HRW.out W hW);go_simp;(try with_reducible rfl));simp only [Act.put,List.setIfInBounds_toArray,List.set_cons_zero,List.set_cons_succ])
   refine sched_done ?_
   have HR4:=Ld (HRW.out _ HB34.out)
   have HB4:=Ld (HB3.out.trans (HB34.out.mono HB3.out.size))
   clear HRW
   have HRW:=Ld (fun W (h : Below w4.heap.size w4 W) => row_keep' HR4.out h)
   go_upto_region 7 with fail
   refine wp_region_sched (S:=fun W => Below w4.heap.size w4 W) [(0,true),(1,true),(2,true),(3,true),(4,true),(5,true),(6,true),(7,true),(8,true),(9,true),(10,true),(11,false),(12,true),(13,true),(14,true),(15,true),(16,true)] (by kernel_rfl) (by kernel_rfl) (by kernel_rfl) (fun _ _ d _ _ h => by cases d <;> exact h) (Below.refl _ _).drew ?_
   repeat (apply sched_take;(exact rfl);rfl;(intro W hW;obtain ⟨x0,x1,x2,x3,x4,x5,x6,x7,x8,x9,x10,x11,x12,x13,x14,x15,x16,z0⟩:=in_cells' (HRW.out W hW);go_simp;(try with_reducible rfl));simp only [Act.put,List.setIfInBounds_toArray,List.set_cons_zero,List.set_cons_succ])
   apply sched_run;(exact rfl);rfl;intro K hK;go_simp
   have hbd:=(Below.refl w4.heap.size w4).drew
   have hbw:=HB4.out.trans (hbd.mono HB4.out.size)
   have hbm:=HB34.out.trans (hbd.mono HB34.out.size)
   refine (Pick_c pg wd A c ⟨tn,cols,keys⟩ ⟨qt,fr,tt,wh,qc,qd,ql,qf,qo,AF,cF,AT,cT,AW,cW,AC,cC⟩ (some ⟨g,0,none⟩) cap P _ (HX.out.t.below hbw) (HX.out.q.below hbw) (HM.out.1.below hbm) (cell_keep HC.out (Nat.le_refl _) hbw) (fun _ => by omega) HCB.out).mono ?_
   rintro e w5 ⟨R5,A5,c5,n5,rfl,hok,hrd,hown,hbk,hb⟩
   have HPS5:=Ld (pick_same HOK4.out hok)
   have HOK5:=Ld hok
   have HRD5:=Ld hrd
   have HOW5:=Ld (show OwnR w5 w4.heap.size _ R5 from hown)
   have HBK5:=Ld (show ∀ x ∈ R5,BlkV (fun k => w4.heap.size ≤ k) x from hbk)
   have HB45:=Ld (hbd.trans (hb.mono hbd.size))
   clear hok hrd hown hbk hb hbd hbw hbm
   refine hK.out _ _ HB45.out (fun _ => ?_)
   clear hK K
   try simp only [Act.put,List.setIfInBounds_toArray,List.set_cons_zero,List.set_cons_succ]
   repeat (apply sched_take;(exact rfl);rfl;(intro W hW;obtain ⟨x0,x1,x2,x3,x4,x5,x6,x7,x8,x9,x10,x11,x12,x13,x14,x15,x16,z0⟩:=in_cells' (HRW.out W hW);go_simp;(try with_reducible rfl));simp only [Act.put,List.setIfInBounds_toArray,List.set_cons_zero,List.set_cons_succ])
   refine sched_done ?_
   have HR5:=Ld (HRW.out _ HB45.out)
   have HB5:=Ld (HB4.out.trans (HB45.out.mono HB4.out.size))
   have HB35:=Ld (HB34.out.trans (HB45.out.mono HB34.out.size))
   clear HRW hsl
   go_upto_region 8 with fail
   obtain ⟨x0,x1,x2,x3,x4,x5,x6,x7,x8,x9,x10,x11,x12,x13,x14,x15,x16,z0⟩:=in_cells' HR5.out
   go_upto_region 9 with (go_at_call 19;go_must (refine (refPick_c pg wd A c ⟨tn,cols,keys⟩ ⟨qt,fr,tt,wh,qc,qd,ql,qf,qo,AF,cF,AT,cT,AW,cW,AC,cC⟩ AP cP P w5 (HX.out.t.below HB5.out) (HX.out.q.below HB5.out) (HX.out.p.below HB5.out) HN.out HCB.out).mono ?_;rintro e w6 ⟨R6,A6,c6',n6,rfl,hok,hrd,hbk,hab,hb⟩;have HPS6:=Ld (pick_same HOK4.out hok);have HPS7:=Ld (pick_same HOK5.out hok);have HPR:=Ld (pick_rows HOK4.out HQN.out);have HRD6:=Ld hrd;have HBK6:=Ld hbk;have HAB6:=Ld hab;have HB56:=Ld hb;clear hok hrd hbk hab hb x0 x1 x2 x3 x4 x5 x6 x7 x8 x9 x10 x11 x12 x13 x14 x15 x16 z0))
   have HR6:=Ld (row_keep' HR5.out HB56.out)
   have HB6:=Ld (HB5.out.trans (HB56.out.mono HB5.out.size))
   have HB36:=Ld (HB35.out.trans (HB56.out.mono HB35.out.size))
   obtain ⟨x0,x1,x2,x3,x4,x5,x6,x7,x8,x9,x10,x11,x12,x13,x14,x15,x16,z0⟩:=in_cells' HR6.out
   obtain ⟨p0,p1⟩:=pair_at (HM.out.2.below HB36.out) (k:=P.length) (by simp)
   have hmk : (P ++ [(markT,(⟨#[]⟩ : ByteArray))])[P.length]'(by simp) = (markT,⟨#[]⟩):=by simp
   rw [hmk] at p0 p1
   simp only [Nat.zero_add] at p0 p1
   obtain ⟨hn5,hs5⟩:=HPS5.out
   obtain ⟨hn6,hs6⟩:=HPS6.out
   subst hn5
   subst hn6
   have HS5:=Ld hs5
   have HS6:=Ld hs6
   have HS7:=Ld HPS7.out.2
   clear hs5 hs6 hmk HPS5 HPS6 HPS7
   go_wp2
   clear p0 p1 x0 x1 x2 x3 x4 x5 x6 x7 x8 x9 x10 x11 x12 x13 x14 x15 x16 z0
   go_loopw [10] (fun i wr => ∃ k : Nat,k ≤ P.length ∧ i = .int .i64 k ∧ Hid (Below w6.heap.size w6 wr)) (fun i _ => P.length - (intOf i).toNat)
   case atStart => exact ⟨0,Nat.zero_le _,rfl,Ld (Below.refl _ _)⟩
   case round =>
    obtain ⟨k,hk,rfl,hB⟩:=hrel
    have HRr:=Ld (row_keep' HR6.out hB.out)
    have HBr:=Ld (HB6.out.trans (hB.out.mono HB6.out.size))
    have HB3r:=Ld (HB36.out.trans (hB.out.mono HB36.out.size))
    obtain ⟨x0,x1,x2,x3,x4,x5,x6,x7,x8,x9,x10,x11,x12,x13,x14,x15,x16,z0⟩:=in_cells' HRr.out
    by_cases hlt : k < P.length
    ·obtain ⟨lb,lo,rfl⟩ : ∃ lb lo,AP = some ⟨lb,lo,none⟩:=by obtain ⟨b,o,e,_⟩:=HX.out.p.rd.2 (show 0 < P.length by omega);exact ⟨b,o,e⟩
     have hk1 : (k : Int) < (P.length : Int) + 1:=by omega
     have HRW:=Ld (fun W (h : Below wr.heap.size wr W) => row_keep' HRr.out h)
     have HPA:=Ld (fun W (h : Below wr.heap.size wr W) => pair_at (HX.out.p.below (HBr.out.trans (h.mono HBr.out.size))).rd (k:=k) hlt)
     have HPB:=Ld (fun W (h : Below wr.heap.size wr W) => pair_at (HM.out.2.below (HB3r.out.trans (h.mono HB3r.out.size))) (k:=k) (by simp;omega))
     have hget : (P ++ [(markT,(⟨#[]⟩ : ByteArray))])[k]'(by simp;omega) = P[k]:=List.getElem_append_left hlt
     rw [hget] at HPB
     obtain ⟨p,hp⟩ : ∃ p,P[k] = p:=⟨_,rfl⟩
     simp only [hp,Nat.zero_add] at HPA HPB
     clear hp hget
     go_upto_region 14 with fail
     clear x0 x1 x2 x3 x4 x5 x6 x7 x8 x9 x10 x11 x12 x13 x14 x15 x16 z0
     refine wp_region_sched (S:=fun W => Below wr.heap.size wr W) [(0,true),(1,true),(2,true),(3,true),(4,true),(5,true),(6,true),(7,true),(8,true),(9,true)] (by kernel_rfl) (by kernel_rfl) (by kernel_rfl) (fun _ _ d _ _ h => by cases d <;> exact h) (Below.refl _ _).drew ?_
     repeat (apply sched_take;(exact rfl);rfl;(intro W hW;obtain ⟨x0,x1,x2,x3,x4,x5,x6,x7,x8,x9,x10,x11,x12,x13,x14,x15,x16,z0⟩:=in_cells' (HRW.out W hW);obtain ⟨r0,r1⟩:=HPA.out W hW;obtain ⟨r2,r3⟩:=HPB.out W hW;go_simp;(try with_reducible rfl));simp only [Act.put,List.setIfInBounds_toArray,List.set_cons_zero,List.set_cons_succ])
     refine sched_done ?_
     go_wp2
     exact ⟨⟨k + 1,by omega,by go_num,Ld hB.out.drew⟩,by simp [intOf];omega⟩
    ·have HRL:=Ld (show ∀ x ∈ R4,0 < x.l.length ∧ (x.l.length + 3) * 64 ≤ 140737488355328 from fun x hx => by
       have:=HPR.out.1 (VI.dataL x.l) (List.mem_map_of_mem hx)
       rw [dataL_eq,List.length_map] at this
       omega)
     have HRN:=Ld (show (R4.length + 3) * 24 ≤ 140737488355328 by have:=HPR.out.2;rw [rowsD_len] at this;omega)
     have HB4r:=Ld (HB45.out.trans ((HB56.out.trans (hB.out.mono HB56.out.size)).mono HB45.out.size))
     have HB5r:=Ld (HB56.out.trans (hB.out.mono HB56.out.size))
     have HTH2:=Ld (Nat.le_trans HTH.out HZ3.out)
     have HL34:=Ld HB34.out.size
     have HL45:=Ld HB45.out.size
     go_wp2_with (first
      | (go_at_call 20;go_must (refine (fresh_c R4 R5 R6 A4 A5 A6 c4 c5 c6' wr w3.heap.size w4.heap.size HTH2.out HL34.out HB4r.out.size (HRD4.out.below HB4r.out) (HOW4.out.below HB4r.out) (fun b o e => (HOW4.out.own.lt b (by rw [e];rfl)).2) (fun x hx => (HBK4.out x hx).and (HRD4.out.hx x hx).blk) HRL.out HRN.out
          (HRD5.out.below HB5r.out) (fun b o e => (HOW5.out.own.lt b (by rw [e];rfl)).1) HBK5.out (HRD6.out.below hB.out) (fun b o e => Nat.le_trans HL45.out (HAB6.out b o e)) (fun x hx => (HBK6.out x hx).mono fun k hk => Nat.le_trans HL45.out hk) HS6.out HS7.out).mono ?_;rintro e w7 ⟨rfl,hb⟩;have HB7:=Ld (HBr.out.trans (hb.mono HZ3.out));clear hb x0 x1 x2 x3 x4 x5 x6 x7 x8 x9 x10 x11 x12 x13 x14 x15 x16 z0))
      | (go_at_call 8;go_must (refine (awake_c w7 (cell_keep HC.out (Nat.le_refl _) HB7.out)).mono ?_;rintro e w8 ⟨rfl,hb⟩;have HB8:=Ld (HB7.out.trans (hb.mono HB7.out.size));clear hb)))
     go_ret
     exact ⟨rfl,HB8.out⟩
end
end Go.Proofs.YtonjgedhmmnolaaGreatDoor
