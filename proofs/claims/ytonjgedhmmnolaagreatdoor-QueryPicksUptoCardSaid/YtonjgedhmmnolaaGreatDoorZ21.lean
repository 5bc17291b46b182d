import Derived.Test.YtonjgedhmmnolaaGreatDoorZ20
import Derived.Laws.OwnMore
namespace Go.Proofs.YtonjgedhmmnolaaGreatDoor
section
open Go.RowKit
set_option maxHeartbeats 2000000
set_option maxRecDepth 100000
theorem boxes_ci {w W : World} {a b d : Value} {cs : Array Value} (h : Below (w.heap.size + 2) ((w.alloc (.cells #[a,b,d] 58)).alloc (.cells cs 54)) W) : (W.cell? ⟨w.heap.size,0,none⟩ = some a ∧ W.cell? ⟨w.heap.size,1,none⟩ = some b ∧ W.cell? ⟨w.heap.size,2,none⟩ = some d) ∧ W.heap[w.heap.size + 1]? = some (.cells cs 54 (0,0)) ∧ w.heap.size + 1 < W.heap.size ∧ Below w.heap.size w W:=by
 have h0 : W.heap[w.heap.size]? = some (.cells #[a,b,d] 58 (0,0)):=(h.block _ (by omega)).trans ((((Below.refl _ _).alloc (Nat.le_refl _) _).block _ (by simp)).trans (heap_alloc_new w _))
 have h1 : W.heap[w.heap.size + 1]? = some (.cells cs 54 (0,0)):=(h.block _ (by omega)).trans (alloc2_at w _ _)
 exact ⟨box3 h0,h1,(Array.getElem?_eq_some_iff.1 h1).1,(two_below w _ _).trans (h.mono (by omega))⟩
theorem fits_c [Inhabited Thr] (c : ColD) (x : VI) (w : World) (hX : RdV w x) : Calls Tryz.prog 86 #[.agg #[.string c.name,.int .u8 c.kind,.bool c.null],x.val] w fun e w' => e = .returned (.bool (fitX c x.data)) ∧ Below w.heap.size w w':=by
 have HX:=Ld hX
 rcases c with ⟨cn,ck,cz⟩
 rcases x with ⟨xk,xb,xn,xf,xt,xA,xc,xl⟩
 obtain ⟨ch,hch⟩ : ∃ n,chkL (VI.dataL [VI.mk xk xb xn xf xt xA xc xl]) = n:=⟨_,rfl⟩
 have HCH:=Ld hch
 have HFX:=Ld (show fitX ⟨cn,ck,cz⟩ (VI.mk xk xb xn xf xt xA xc xl).data = (decide (ch = 0) && (decide (xk = ck) || (decide (xk = 1) && cz))) by
  rw [← hch];simp only [fitX,VI.dataL,data_k];rfl)
 have HBX:=Ld (fun W (h : Below (w.heap.size + 2) ((w.alloc (.cells #[.string cn,.int .u8 ck,.bool cz] 58)).alloc (.cells (c6 xk xb xn xf xt xA xl.length xc) 54)) W) => boxes_ci h)
 have HB0:=Ld (two_below w (.cells #[.string cn,.int .u8 ck,.bool cz] 58) (.cells (c6 xk xb xn xf xt xA xl.length xc) 54))
 simp only [VI.val,VI.k,VI.b,VI.n,VI.f,VI.t,VI.A,VI.c,VI.l]
 obtain ⟨W0,hW0⟩ : ∃ V,((w.alloc (.cells #[.string cn,.int .u8 ck,.bool cz] 58)).alloc (.cells (c6 xk xb xn xf xt xA xl.length xc) 54)) = V:=⟨_,rfl⟩
 have HW0:=Ld hW0
 have HS0:=Ld (show W0.heap.size = w.heap.size + 2 by rw [← hW0];simp)
 rw [HW0.out] at HB0
 simp only [hW0] at HBX
 clear hX hch hW0
 go_enter Tryz.func86,Tryz.ntmps86
 go_upto_region 1 with fail
 rw [HW0.out]
 obtain ⟨⟨b0,b1,b2⟩,b3,b4,b5⟩:=HBX.out W0 (Below.refl _ _)
 have i0:=cell_of_row _ _ 0 _ _ _ b3
 have i1:=cell_of_row _ _ 1 _ _ _ b3
 have i2:=cell_of_row _ _ 2 _ _ _ b3
 have i3:=cell_of_row _ _ 3 _ _ _ b3
 have i4:=cell_of_row _ _ 4 _ _ _ b3
 have i5:=cell_of_row _ _ 5 _ _ _ b3
 clear b3 b5
 have HFIN:=Ld (fun (W : World) (h : Below W0.heap.size W0 W) => HB0.out.trans (h.mono HB0.out.size))
 by_cases h0 : ch = 0
 ·have e0 : ((ch : Int) == 0) = true:=by simp [h0]
  have H0:=Ld (decide_eq_true h0)
  clear h0
  cases h1 : (xk == ck) with
  | true =>
    have HV:=Ld (show (decide (ch = 0) && (decide (xk = ck) || (decide (xk = 1) && cz))) = true by rw [H0.out,decide_eq_true (show xk = ck by simpa using h1)];simp)
    go_wp2_with (go_at_call 64;go_must (refine (refCheck_c (some ⟨W0.heap.size,0,none⟩) 1 [VI.mk xk xb xn xf xt xA xc xl] _ (one_rd HX.out W0 HB0.out rfl rfl)).mono ?_;rw [HCH.out];rintro e w1 ⟨rfl,hb⟩;have HB1:=Ld (((Below.refl W0.heap.size W0).alloc (Nat.le_refl _) _).trans (hb.mono (by simp)));obtain ⟨⟨d0,d1,d2⟩,d3,d4,d5⟩:=HBX.out w1 (by have:=HB1.out;rw [HS0.out] at this;exact this);have j0:=cell_of_row _ _ 0 _ _ _ d3;clear hb d3 d5 b0 b1 b2 b4 i0 i1 i2 i3 i4 i5))
    go_ret
    exact ⟨ret_eq (by rw [HFX.out,HV.out];rfl),HFIN.out _ HB1.out⟩
  | false =>
    have H1:=Ld (show decide (xk = ck) = false from decide_eq_false (by simpa using h1))
    cases cz with
    | false =>
      have HV:=Ld (show (decide (ch = 0) && (decide (xk = ck) || (decide (xk = 1) && false))) = false by rw [H1.out];simp)
      go_wp2_with (go_at_call 64;go_must (refine (refCheck_c (some ⟨W0.heap.size,0,none⟩) 1 [VI.mk xk xb xn xf xt xA xc xl] _ (one_rd HX.out W0 HB0.out rfl rfl)).mono ?_;rw [HCH.out];rintro e w1 ⟨rfl,hb⟩;have HB1:=Ld (((Below.refl W0.heap.size W0).alloc (Nat.le_refl _) _).trans (hb.mono (by simp)));obtain ⟨⟨d0,d1,d2⟩,d3,d4,d5⟩:=HBX.out w1 (by have:=HB1.out;rw [HS0.out] at this;exact this);have j0:=cell_of_row _ _ 0 _ _ _ d3;clear hb d3 d5 b0 b1 b2 b4 i0 i1 i2 i3 i4 i5))
      go_ret
      exact ⟨ret_eq (by rw [HFX.out,HV.out];rfl),HFIN.out _ HB1.out⟩
    | true =>
      cases h2 : (xk == 1) with
      | true =>
        have HV:=Ld (show (decide (ch = 0) && (decide (xk = ck) || (decide (xk = 1) && true))) = true by rw [H0.out,decide_eq_true (show xk = 1 by simpa using h2)];simp)
        go_wp2_with (go_at_call 64;go_must (refine (refCheck_c (some ⟨W0.heap.size,0,none⟩) 1 [VI.mk xk xb xn xf xt xA xc xl] _ (one_rd HX.out W0 HB0.out rfl rfl)).mono ?_;rw [HCH.out];rintro e w1 ⟨rfl,hb⟩;have HB1:=Ld (((Below.refl W0.heap.size W0).alloc (Nat.le_refl _) _).trans (hb.mono (by simp)));obtain ⟨⟨d0,d1,d2⟩,d3,d4,d5⟩:=HBX.out w1 (by have:=HB1.out;rw [HS0.out] at this;exact this);have j0:=cell_of_row _ _ 0 _ _ _ d3;clear hb d3 d5 b0 b1 b2 b4 i0 i1 i2 i3 i4 i5))
        go_ret
        exact ⟨ret_eq (by rw [HFX.out,HV.out];rfl),HFIN.out _ HB1.out⟩
      | false =>
        have HV:=Ld (show (decide (ch = 0) && (decide (xk = ck) || (decide (xk = 1) && true))) = false by rw [H1.out,decide_eq_false (show ¬ xk = 1 by simpa using h2)];simp)
        go_wp2_with (go_at_call 64;go_must (refine (refCheck_c (some ⟨W0.heap.size,0,none⟩) 1 [VI.mk xk xb xn xf xt xA xc xl] _ (one_rd HX.out W0 HB0.out rfl rfl)).mono ?_;rw [HCH.out];rintro e w1 ⟨rfl,hb⟩;have HB1:=Ld (((Below.refl W0.heap.size W0).alloc (Nat.le_refl _) _).trans (hb.mono (by simp)));obtain ⟨⟨d0,d1,d2⟩,d3,d4,d5⟩:=HBX.out w1 (by have:=HB1.out;rw [HS0.out] at this;exact this);have j0:=cell_of_row _ _ 0 _ _ _ d3;clear hb d3 d5 b0 b1 b2 b4 i0 i1 i2 i3 i4 i5))
        go_ret
        exact ⟨ret_eq (by rw [HFX.out,HV.out];rfl),HFIN.out _ HB1.out⟩
 ·have e0 : ((ch : Int) == 0) = false:=by simp [h0]
  have HV:=Ld (show (decide (ch = 0) && (decide (xk = ck) || (decide (xk = 1) && cz))) = false by rw [decide_eq_false h0];simp)
  clear h0
  go_wp2_with (go_at_call 64;go_must (refine (refCheck_c (some ⟨W0.heap.size,0,none⟩) 1 [VI.mk xk xb xn xf xt xA xc xl] _ (one_rd HX.out W0 HB0.out rfl rfl)).mono ?_;rw [HCH.out];rintro e w1 ⟨rfl,hb⟩;have HB1:=Ld (((Below.refl W0.heap.size W0).alloc (Nat.le_refl _) _).trans (hb.mono (by simp)));obtain ⟨⟨d0,d1,d2⟩,d3,d4,d5⟩:=HBX.out w1 (by have:=HB1.out;rw [HS0.out] at this;exact this);have j0:=cell_of_row _ _ 0 _ _ _ d3;clear hb d3 d5 b0 b1 b2 b4 i0 i1 i2 i3 i4 i5))
  go_ret
  exact ⟨ret_eq (by rw [HFX.out,HV.out];rfl),HFIN.out _ HB1.out⟩
end
section
open Go.RowKit
set_option maxHeartbeats 2000000
set_option maxRecDepth 100000
theorem first_c [Inhabited Thr] (A : Option Addr) (c : Nat) (t : TabD) (B : Option Addr) (d : Nat) (l : List VI) (w : World) (hR : RdT w A c t) (hL : RdI w B d l) : Calls Tryz.prog 53 #[vT t A c,.slice B l.length d] w fun e w' => e = .returned (.bool (fitL t.cols (VI.dataL l))) ∧ Below w.heap.size w w':=by
 have HR:=Ld hR
 have HL:=Ld hL
 have hlb:=hL.hb
 have hcb:=hR.hb
 rcases t with ⟨tn,cols,keys⟩
 have HDL:=Ld (show (VI.dataL l).length = l.length by rw [dataL_eq,List.length_map])
 obtain ⟨V,hV⟩ : ∃ V,VI.dataL l = V:=⟨_,rfl⟩
 have HV:=Ld hV
 rw [HV.out] at HDL
 rw [HV.out]
 obtain ⟨W0,hW0⟩ : ∃ W0,w.alloc (.cells #[.string tn,.slice A cols.length c,.int .i64 keys] 27) = W0:=⟨_,rfl⟩
 have HW0:=Ld hW0
 have HBX:=Ld (fun W (h : Below (w.heap.size + 1) W0 W) => box_t (hW0 ▸ h))
 have HB0:=Ld (show Below w.heap.size w W0 by rw [← hW0];exact (Below.refl _ _).alloc (Nat.le_refl _) _)
 simp only at hcb
 clear hR hL hV hW0
 by_cases hlen : cols.length < l.length
 ·have HF:=Ld (show fitL cols V = false from fitL_long cols V (by rw [HDL.out];exact hlen))
  go_enter Tryz.func53,Tryz.ntmps53
  go_wp2
  go_ret
  rw [HW0.out]
  exact ⟨ret_eq (by rw [HF.out];rfl),HB0.out⟩
 ·go_enter Tryz.func53,Tryz.ntmps53
  go_wp2
  go_loopw [5] (fun i wr => ∃ (k : Nat),k ≤ l.length ∧ i = .int .i64 k ∧ Hid (fitL cols V = fitL (cols.drop k) (V.drop k)) ∧ Hid (Below (w.heap.size + 1) W0 wr)) (fun i _ => l.length - (intOf i).toNat)
  case atStart => exact ⟨0,Nat.zero_le _,rfl,Ld rfl,Ld (by rw [HW0.out];exact Below.refl _ _)⟩
  case round =>
   obtain ⟨k,hk,rfl,hf,hB⟩:=hrel
   by_cases hlt : k < l.length
   ·have hkc : k < cols.length:=by omega
    have HBXr:=Ld (HBX.out _ hB.out)
    have HTr:=Ld (HR.out.below HBXr.out.2.2)
    have HLr:=Ld (HL.out.below HBXr.out.2.2)
    obtain ⟨tb,te,rfl⟩ : ∃ tb te,A = some ⟨tb,te,none⟩:=by obtain ⟨b,o,e,_⟩:=HTr.out.rd.2 (show 0 < cols.length by omega);exact ⟨b,o,e⟩
    obtain ⟨lb,le,rfl⟩ : ∃ tb te,B = some ⟨tb,te,none⟩:=by obtain ⟨b,o,e,_⟩:=HLr.out.rd.2 (show 0 < l.length by omega);exact ⟨b,o,e⟩
    have HCE:=Ld (fun V (h : Below wr.heap.size wr V) => col_at (HTr.out.below h).rd hkc)
    have HIE:=Ld (fun V (h : Below wr.heap.size wr V) => item_at (HLr.out.below h).rd hlt)
    have HTE:=Ld (fun V (h : Below wr.heap.size wr V) => (HBX.out V (hB.out.trans (h.mono HBXr.out.2.1))).1)
    have HX:=Ld (HLr.out.hx _ (List.getElem_mem hlt))
    have HFD:=Ld (fitL_drop cols V k hkc (by rw [HDL.out];exact hlt))
    have HVK:=Ld (show V[k]'(by rw [HDL.out];exact hlt) = l[k].data by have:=data_at l k hlt;simpa only [HV.out] using this)
    rw [HVK.out] at HFD
    simp only at HCE
    obtain ⟨x,hx⟩ : ∃ x,l[k] = x:=⟨_,rfl⟩
    obtain ⟨y,hy⟩ : ∃ y,cols[k] = y:=⟨_,rfl⟩
    simp only [hx] at HIE HX HFD
    simp only [hy] at HCE HFD
    clear hx hy HVK
    rcases x with ⟨xk,xb,xn,xf,xt,xA,xc,xl⟩
    rcases y with ⟨yn,yk,yz⟩
    simp only [VI.k,VI.b,VI.n,VI.f,VI.t,VI.A,VI.c,VI.l] at HIE
    simp only at HCE
    obtain ⟨fb,hfb⟩ : ∃ b,fitX ⟨yn,yk,yz⟩ (VI.mk xk xb xn xf xt xA xc xl).data = b:=⟨_,rfl⟩
    have HFB:=Ld hfb
    rw [hfb] at HFD
    clear hfb
    go_wp2
    refine wp_region_sched (S:=fun V => Below wr.heap.size wr V) [(0,true),(1,true),(2,true),(3,true),(4,true),(5,true),(6,true),(7,true),(8,true),(9,false),(10,true)] (by kernel_rfl) (by kernel_rfl) (by kernel_rfl) (fun _ _ d _ _ h => by cases d <;> exact h) (Below.refl _ _).drew ?_
    repeat (apply sched_take;(exact rfl);rfl;(intro W hW;obtain ⟨p0,p1,p2⟩:=HCE.out W hW;obtain ⟨q0,q1,q2,q3,q4,q5⟩:=HIE.out W hW;obtain ⟨t0,t1,t2⟩:=HTE.out W hW;go_simp;(try with_reducible rfl));simp only [Act.put,List.setIfInBounds_toArray,List.set_cons_zero,List.set_cons_succ])
    apply sched_run;(exact rfl);rfl;intro K hK;go_simp
    have hbd:=(Below.refl wr.heap.size wr).drew
    refine (fits_c ⟨yn,yk,yz⟩ (.mk xk xb xn xf xt xA xc xl) _ (HX.out.grow hbd)).mono ?_
    rw [HFB.out]
    rintro e V1 ⟨rfl,hb⟩
    have HV1:=Ld (hbd.trans (hb.mono (show wr.heap.size ≤ _ from hbd.size)))
    clear hbd hb
    refine hK.out _ _ HV1.out (fun _ => ?_)
    clear hK K
    try simp only [Act.put,List.setIfInBounds_toArray,List.set_cons_zero,List.set_cons_succ]
    repeat (apply sched_take;(exact rfl);rfl;(intro W hW;go_simp;(try with_reducible rfl));simp only [Act.put,List.setIfInBounds_toArray,List.set_cons_zero,List.set_cons_succ])
    refine sched_done ?_
    have HB1:=Ld (hB.out.trans (HV1.out.mono HBXr.out.2.1))
    cases fb with
    | false =>
      go_wp2
      go_ret
      exact ⟨ret_eq (by rw [hf.out,HFD.out];rfl),(HBX.out _ HB1.out).2.2⟩
    | true =>
      go_wp2
      exact ⟨⟨k + 1,by omega,by go_num,Ld (by rw [hf.out,HFD.out];rfl),HB1⟩,by simp [intOf];omega⟩
   ·have HN:=Ld (show V.drop k = [] from List.drop_eq_nil_of_le (by rw [HDL.out];omega))
    have HWE:=Ld (HBX.out _ hB.out).2.2
    go_wp2
    go_ret
    exact ⟨ret_eq (by rw [hf.out,HN.out,fitL_nil];rfl),HWE.out⟩
theorem named25_c [Inhabited Thr] (A : Option Addr) (c : Nat) (t : TabD) (B : Option Addr) (d : Nat) (l : List VI) (w : World) (hn : t.name.size ≤ 140737488355328) (hL : RdI w B d l) (hl : l.length ≤ 1000) :
 Calls Tryz.prog 55 #[vT t A c,.slice B l.length d] w fun e w' => ∃ A' c',e = .returned (.slice A' (l.length + 1) c') ∧ RdI w' A' c' (vText t.name :: l) ∧ Below w.heap.size w w':=by
 have HL:=Ld hL
 have HN:=Ld hn
 rcases t with ⟨tn,cols,keys⟩
 clear hL hn
 go_enter Tryz.func55,Tryz.ntmps55
 go_wp2_with (first
  | (go_at_call 88;go_must (refine (refText_c tn _).mono ?_;rintro e w1 ⟨rfl,hb1⟩;simp only [VI.val,VI.k,VI.b,VI.n,VI.f,VI.t,VI.A,VI.c,VI.l,List.length_nil];have HB1:=Ld ((Below.refl w.heap.size w).alloc (Nat.le_refl _) (.cells #[.string tn,.slice A cols.length c,.int .i64 keys] 27) |>.trans (hb1.mono (by simp)));clear hb1))
  | (at_builtin;go_must (have HO:=Ld (OwnI.laid w1 #[.int .u8 5,.bool false,.int .i64 0,.float .f64 0,.string tn,.slice none 0 0] [vText tn] rfl (by simp) (n:=1) rfl rfl HB1.out.size (by intro y hy;obtain rfl : y = vText tn:=(by simpa using hy);exact RdV.plain _ _ _ _ _ _ HN.out (by decide) (by decide) (by decide)));have hb2:=(Below.refl w1.heap.size w1).alloc (Nat.le_refl _) (.cells #[.int .u8 5,.bool false,.int .i64 0,.float .f64 0,.string tn,.slice none 0 0] 54);have HL2:=Ld (HL.out.below (HB1.out.trans (hb2.mono HB1.out.size)));refine wpList_items (B:=w.heap.size) (l:=[vText tn]) (ys:=l) rfl (.tmp 10) (.tmp 11) rfl HO.out rfl rfl HL2.out.rd rfl HL2.out.hx (fun y hy => (HL.out.hx y hy).blk.mono fun k hk e => by have:=HO.out.own.lt k e;omega) (by simp;omega) (by have:=HB1.out.size;simp;omega) ?_;intro v2 w3 hO2 hK2 _;have HO2:=Ld hO2;have HK2:=Ld ((HB1.out.trans (hb2.mono HB1.out.size)).trans (hK2.below (by have:=HB1.out.size;simp;omega) (fun j hj e => by have:=(HO.out.own.lt j e).1;omega)));clear hO2 hK2 hb2)))
 go_ret
 obtain ⟨A',c',rfl,hRI⟩:=HO2.out.rdi (by simp;omega)
 exact ⟨A',c',by simp,hRI,HK2.out⟩
end
section
open Go.RowKit
set_option maxHeartbeats 2000000
set_option maxRecDepth 100000
theorem find_c (A : Option Addr) (c : Nat) (t : TabD) (s : ByteArray) (w : World) (hR : RdT w A c t) : Calls Tryz.prog 44 #[vT t A c,.string s] w fun e w' => e = .returned (.int .i64 (findC t s)) ∧ Below w.heap.size w w':=by
 have HR:=Ld hR
 have hcb:=hR.hb
 rcases t with ⟨tn,cols,keys⟩
 obtain ⟨fi,hfi⟩ : ∃ n,findC ⟨tn,cols,keys⟩ s = n:=⟨_,rfl⟩
 have HFI:=Ld (show findL cols s.data.toList 0 = fi from hfi)
 rw [hfi]
 obtain ⟨W0,hW0⟩ : ∃ W0,w.alloc (.cells #[.string tn,.slice A cols.length c,.int .i64 keys] 27) = W0:=⟨_,rfl⟩
 have HW0:=Ld hW0
 have HBX:=Ld (fun W (h : Below (w.heap.size + 1) W0 W) => box_t (hW0 ▸ h))
 simp only at hcb
 clear hR hfi hW0
 go_enter Tryz.func44,Tryz.ntmps44
 go_wp2
 go_loopw [5] (fun i wr => ∃ (k : Nat),k ≤ cols.length ∧ i = .int .i64 k ∧ Hid (findL (cols.drop k) s.data.toList k = fi) ∧ Hid (Below (w.heap.size + 1) W0 wr)) (fun i _ => cols.length - (intOf i).toNat)
 case atStart => exact ⟨0,Nat.zero_le _,rfl,HFI,Ld (by rw [HW0.out];exact Below.refl _ _)⟩
 case round =>
  obtain ⟨k,hk,rfl,hf,hB⟩:=hrel
  obtain ⟨⟨t0,t1,t2⟩,z0,z1⟩:=HBX.out _ hB.out
  have HW:=Ld z1
  clear z1
  by_cases hlt : k < cols.length
  ·have HTr:=Ld (HR.out.below HW.out)
   obtain ⟨tb,te,rfl⟩ : ∃ tb te,A = some ⟨tb,te,none⟩:=by obtain ⟨b,o,e,_⟩:=HTr.out.rd.2 (show 0 < cols.length by omega);exact ⟨b,o,e⟩
   obtain ⟨p0,p1,p2⟩:=col_at HTr.out.rd hlt
   have HFD:=Ld (findL_drop cols s.data.toList k hlt)
   simp only at p0 p1 p2
   obtain ⟨x,hx⟩ : ∃ x,cols[k] = x:=⟨_,rfl⟩
   rw [hx] at p0 p1 p2 HFD
   clear hx
   by_cases he : x.name.data.toList = s.data.toList
   ·have e1 : (x.name.toList == s.toList) = true:=by rw [eqB];exact decide_eq_true he
    rw [if_pos he] at HFD
    clear he
    go_wp2
    go_ret
    exact ⟨ret_eq (by rw [← hf.out,HFD.out];rfl),HW.out⟩
   ·have e1 : (x.name.toList == s.toList) = false:=by rw [eqB];exact decide_eq_false he
    rw [if_neg he] at HFD
    clear he
    go_wp2
    exact ⟨⟨k + 1,by omega,by go_num,Ld (by rw [← hf.out,HFD.out]),hB⟩,by simp [intOf];omega⟩
  ·have HN:=Ld (show cols.drop k = [] from List.drop_eq_nil_of_le (by omega))
   go_wp2
   go_ret
   exact ⟨ret_eq (by rw [← hf.out,HN.out];rfl),HW.out⟩
end
section
open Go.RowKit
set_option maxHeartbeats 2000000
set_option maxRecDepth 100000
theorem sorted_c (f : Nat) (h : f < 18446744073709551616) (w : World) : Calls Tryz.prog 151 #[.float .f64 f] w fun e w' => e = .returned (.int .u64 (keyU f : Nat)) ∧ w = w':=by
 obtain ⟨z,hz⟩ : ∃ z : Int,(f : Int) = z:=⟨_,rfl⟩
 have hc : ∀ w,(callFunc 106 #[.float .f64 f]).run Tryz.prog w = .ok (.value (.int .u64 z)) w:=by rw [← hz];exact bits_call f
 have HZ:=Ld hz
 have H:=Ld h
 clear hz h
 go_enter Tryz.func151,Tryz.ntmps151
 go_wp2
 ·go_ret
  refine ⟨ret_eq ?_,rfl⟩
  have hb : bitsF f = 9221120237041090560:=if_pos (by assumption)
  have hk : keyU f = 18444492273895866368:=by unfold keyU;rw [hb,if_neg (by decide)]
  rw [hk];rfl
 ·go_ret
  refine ⟨ret_eq ?_,rfl⟩
  have hb : bitsF f = f:=if_neg (by simp only [isNan];simp_all)
  have hz:=HZ.out
  have hl:=H.out
  have hk : keyU f = 2 ^ 64 - 1 - f:=by unfold keyU;rw [hb,if_pos (by omega)]
  rw [hk,← hz,show IntKind.u64.max = ((2 ^ 64 - 1 : Nat) : Int) from rfl,bits_xor_u64_nat _ _ (by decide) hl,Lib.xor_ones64 _ hl];rfl
 ·go_ret
  refine ⟨ret_eq ?_,rfl⟩
  have hb : bitsF f = f:=if_neg (by simp only [isNan];simp_all)
  have hz:=HZ.out
  have hl:=H.out
  have hk : keyU f = f + 2 ^ 63:=by unfold keyU;rw [hb,if_neg (by omega)]
  rw [hk,← hz,IntWalk.u64_in _ (by omega)]
  rfl
theorem wpList_mkn {P : Program} {w : World} {ops : Array Oper} {rest : List Oper} {o : Oper} {a : Act} {Q : Exit → Act → World → Prop} (hgd : o.guard = none) (l x : Operand) (t : TypeId) (ho : o.op = .makeSlice t l x)
 (base : Nat) (e : TypeId) {i : TypeInfo} {z : Value} {size : Nat} (ht : P.underlying t = some (.slice e)) (hi : P.info? e = some i) (hz : i.zero = some z) (hsize : i.size = size)
 (kl kc : IntKind) (n : Nat) (hl : a.eval l = .int kl n) (hx : a.eval x = .int kc n) (hbytes : i.bytes * n ≤ 281474976710656) (h63 : n ≤ maxLen) (hbase : base ≤ w.heap.size)
 (h : ∀ w',w'.ownsRow base e size (.slice (some ⟨w.heap.size,0,none⟩) n n) n (madeCells z.cells (n * size)).toList → Below w.heap.size w w' → wpList P ops Q rest (a.put o.dst (.slice (some ⟨w.heap.size,0,none⟩) n n)) w') : wpList P ops Q (o :: rest) a w:=by
 obtain ⟨w',hr,hown,hg⟩:=run_make_full (P:=P) w base t e i z size ht hi hz hsize kl kc n hbytes h63 hbase
 refine wpList_plain hgd fun K hK => ?_
 unfold Oper.wp execOp
 simp only [ho,hl,hx,Sem.run_bind,Sem.run_pure,Result.andThen_ok,hr]
 exact hK _ _ (h w' hown ((Below.refl _ _).grown hg (Nat.le_refl _) (fun k e => by cases e)))
theorem bts_set (l : List UInt8) (j : Nat) (c : UInt8) : (bts l).set j (.int .u8 c.toNat) = bts (l.set j c):=by
 simp [bts,List.map_set]
theorem set_rep (j : Nat) (c : UInt8) (r : List UInt8) : (List.replicate (j + 1) 0 ++ r).set j c = List.replicate j 0 ++ c :: r:=by
 induction j with
 | zero => rfl
 | succ j ih => rw [List.replicate_succ,List.cons_append,List.set_cons_succ,ih];rfl
theorem toList_madeCells_one' {n : Nat} (_h : n ≤ 8) : (madeCells (Value.int IntKind.u8 0).cells (n * 1)).toList = List.replicate n (.int .u8 0):=by
 rw [Nat.mul_one]
 exact toList_madeCells_one _ _
theorem refWhole_c (u n : Nat) (w : World) (hu : u < 18446744073709551616) (hn : n ≤ 8) : Calls Tryz.prog 150 #[.int .u64 u,.int .i64 n] w fun e w' => e = .returned (.string ⟨(bigB u n).toArray⟩) ∧ Below w.heap.size w w':=by
 obtain ⟨i0,hi,hz0,hz1,hz2⟩:=info_parts infoB
 go_enter Tryz.func150,Tryz.ntmps150
 go_wp2_with (refine wpList_mkn rfl (.tmp 7) (.tmp 7) 35 rfl w.heap.size 5 Tryz.underlying35 hi hz0 hz1 .i64 .i64 n rfl rfl (by rw [hz2];omega) (by unfold maxLen;omega) (Nat.le_refl _) ?_;intro w1 hO hb1;have HO:=Ld hO;have HB1:=Ld hb1;clear hO hb1)
 go_loopw [0,6] (fun a i wr => ∃ (j : Nat),j ≤ n ∧ a = .int .u64 ((u / 256 ^ (n - j) : Nat) : Int) ∧ i = .int .i64 ((j : Int) - 1) ∧ Hid (wr.ownsRow w.heap.size 5 1 (.slice (some ⟨w.heap.size,0,none⟩) n n) n (bts (List.replicate j 0 ++ bigB u (n - j)))) ∧ Hid (Below w.heap.size w wr)) (fun _ i _ => (intOf i + 1).toNat)
 case atStart =>
  refine ⟨n,Nat.le_refl _,by simp,rfl,Ld ?_,HB1⟩
  have:=HO.out
  rw [toList_madeCells_one' (by omega)] at this
  simpa [bts,bigB] using this
 case round =>
  obtain ⟨j,hj,rfl,rfl,hO,hB⟩:=hrel
  cases j with
  | zero =>
    have hcv:=run_back (w:=wr) (B:=w.heap.size) (v:=.slice (some ⟨w.heap.size,0,none⟩) n n) (bs:=bigB u n) (by have h:=hO.out;simp only [List.replicate_zero,List.nil_append,Nat.sub_zero] at h;unfold OwnB;rw [bigB_len];exact h)
    go_wp2
    go_ret
    exact ⟨ret_eq rfl,hB.out⟩
  | succ j =>
    have HQ:=Ld (show ((u / 256 ^ (n - (j + 1)) : Nat) : Int) / 256 = ((u / 256 ^ (n - j) : Nat) : Int) by
     rw [show n - j = (n - (j + 1)) + 1 by omega,Nat.pow_succ,← Nat.div_div_eq_div_mul];rfl)
    have HU:=Ld (show (u / 256 ^ (n - (j + 1))) < 18446744073709551616 from Nat.lt_of_le_of_lt (Nat.div_le_self _ _) hu)
    obtain ⟨q,hq⟩ : ∃ q,u / 256 ^ (n - (j + 1)) = q:=⟨_,rfl⟩
    have HB:=Ld (show bigB u (n - j) = UInt8.ofNat q :: bigB u (n - (j + 1)) by rw [show n - j = (n - (j + 1)) + 1 by omega,← hq];rfl)
    have f0:=World.ownsRow.frozenAt hO.out j
    have c0 : wr.cell? ⟨w.heap.size,j,none⟩ = some (.int .u8 0):=by
     have h1:=World.ownsRow.cellAt hO.out j (by omega)
     refine h1.trans ?_
     rw [bts,List.getElem?_map,List.getElem?_append_left (by simp),List.getElem?_replicate,if_pos (by omega)];rfl
    rw [hq] at HQ HU ⊢
    clear hq
    go_wp2
    refine ⟨⟨j,by omega,by rw [IntWalk.u64_in _ (by have:=HU.out;omega),HQ.out],rfl,Ld ?_,Ld (hB.out.setCell (p:=⟨w.heap.size,j,none⟩) (Nat.le_refl _) _)⟩,by simp [intOf]⟩
    have hs:=(World.ownsRow.stored hO.out j (.int .u8 ((q : Int) % 256))).1
    rw [show (q : Int) % 256 = ((UInt8.ofNat q).toNat : Int) by rw [UInt8.toNat_ofNat'];rfl,bts_set,set_rep,← HB.out] at hs
    exact hs
end
end Go.Proofs.YtonjgedhmmnolaaGreatDoor
