import Derived.Test.YtonjgedhmmnolaaGreatDoorZZ8
import Derived.Test.YtonjgedhmmnolaaGreatDoorZ12
namespace Go.Proofs.YtonjgedhmmnolaaGreatDoor
section
open Go.RowKit
set_option maxHeartbeats 2000000
set_option maxRecDepth 100000
theorem and_nat (n : Nat) : n &&& 4294967295 = n % 4294967296:=Nat.and_two_pow_sub_one_eq_mod n 32
theorem and_low (x : Int) (_ : -9223372036854775808 ≤ x ∧ x ≤ 9223372036854775807) : Op.intBits .and .i64 x 4294967295 = pure (.int .i64 (x % 4294967296)):=by
 have e : (BitVec.ofInt 64 x &&& BitVec.ofInt 64 4294967295).toNat = (x % 18446744073709551616).toNat % 4294967296:=by
  rw [BitVec.toNat_and,BitVec.toNat_ofInt,BitVec.toNat_ofInt]
  exact and_nat _
 have e2 : IntKind.i64.wrap (((BitVec.ofInt 64 x &&& BitVec.ofInt 64 4294967295).toNat : Nat) : Int) = x % 4294967296:=by
  rw [e,IntWalk.i64_in _ (by omega)];omega
 show (pure (Value.int .i64 (IntKind.i64.wrap (((BitVec.ofInt 64 x &&& BitVec.ofInt 64 4294967295).toNat : Nat) : Int))) : Sem Value) = _
 rw [e2]
theorem refTotal_c [Inhabited Thr] (A : Option Addr) (c : Nat) (l : List VI) (w : World) (hL : RdI w A c l) (hn : l.length ≤ 1048576) : Calls Tryz.prog 83 #[.slice A l.length c] w fun e w' => e = .returned (.tuple #[.int .i64 (wholeR (VI.dataL l)).1,.bool (decide ((wholeR (VI.dataL l)).2 = 0))]) ∧ Below w.heap.size w w':=by
 have HL:=Ld hL
 have hlb:=hL.hb
 clear hL
 go_enter Tryz.func83,Tryz.ntmps83
 go_wp2
 go_loopw [6,5,4] (fun i lo hi wr => ∃ (k : Nat) (a b : Int),k ≤ l.length ∧ i = .int .i64 k ∧ lo = .int .i64 a ∧ hi = .int .i64 b ∧ 0 ≤ a ∧ a ≤ 4503599627370496 ∧ -2251799813685248 ≤ b ∧ b ≤ 2251799813685248 ∧ Hid (a ≤ k * 4294967295 ∧ -(k * 2147483648 : Int) ≤ b ∧ b ≤ k * 2147483648) ∧ Hid (4294967296 * b + a = sumN ((VI.dataL l).take k)) ∧ wr = w) (fun i _ _ _ => l.length - (intOf i).toNat)
 case atStart => exact ⟨0,0,0,Nat.zero_le _,rfl,rfl,rfl,by decide,by decide,by decide,by decide,Ld ⟨by decide,by decide,by decide⟩,Ld rfl,rfl⟩
 case round =>
  obtain ⟨k,a,b,hk,rfl,rfl,rfl,ha0,ha1,hb0,hb1,hab,hS,hwr⟩:=hrel
  subst hwr
  by_cases hlt : k < l.length
  ·obtain ⟨ab,ao,rfl⟩ : ∃ ab ao,A = some ⟨ab,ao,none⟩:=by obtain ⟨b,o,e,_⟩:=HL.out.rd.2 (by omega);exact ⟨b,o,e⟩
   obtain ⟨p0,p1,p2,p3,p4,p5⟩:=item_at HL.out.rd hlt
   have HTT:=Ld (sum_take l k hlt _ rfl)
   have HX:=Ld (HL.out.hx _ (List.getElem_mem hlt))
   obtain ⟨x,hx⟩ : ∃ x,l[k] = x:=⟨_,rfl⟩
   rw [hx] at p0 p1 p2 p3 p4 p5 HTT HX
   clear hx
   rcases x with ⟨xk,xb,xn,xf,xt,xA,xc,xl⟩
   simp only [VI.k,VI.b,VI.n,VI.f,VI.t,VI.A,VI.c,VI.l] at p0 p1 p2 p3 p4 p5 HTT
   have hxn : -9223372036854775808 ≤ xn ∧ xn ≤ 9223372036854775807:=by have h1:=HX.out;cases h1 with | mk _ _ _ _ _ _ _ hn _ => exact hn
   have hand:=and_low xn hxn
   obtain ⟨u,hu⟩ : ∃ u,xn % 4294967296 = u:=⟨_,rfl⟩
   obtain ⟨v,hv⟩ : ∃ v,xn / 4294967296 = v:=⟨_,rfl⟩
   have hu0 : 0 ≤ u ∧ u ≤ 4294967295:=by omega
   have hv0 : -2147483648 ≤ v ∧ v ≤ 2147483647:=by omega
   obtain ⟨hu0,hu1⟩:=hu0
   obtain ⟨hv0,hv1⟩:=hv0
   have HUV:=Ld (show xn = 4294967296 * v + u by omega)
   rw [hu] at hand
   have hb2 : -2251799813685248 ≤ b + v ∧ b + v ≤ 2251799813685248:=by have:=hab.out;omega
   have ha2 : a + u ≤ 4503599627370496:=by have:=hab.out;omega
   go_wp2
   refine ⟨⟨k + 1,a + u,b + v,by omega,by go_num,rfl,rfl,by omega,ha2,hb2.1,hb2.2,Ld ?_,Ld ?_,trivial⟩,by simp [intOf];omega⟩
   ·have:=hab.out;omega
   ·rw [HTT.out,← hS.out,HUV.out];omega
  ·have HN:=Ld (show (VI.dataL l).take k = VI.dataL l from List.take_of_length_le (by rw [dataL_eq,List.length_map];omega))
   obtain ⟨S,hSe⟩ : ∃ S,sumN (VI.dataL l) = S:=⟨_,rfl⟩
   rw [HN.out,hSe] at hS
   have HWR:=Ld (show wholeR (VI.dataL l) = if -9223372036854775808 ≤ S ∧ S ≤ 9223372036854775807 then (S,0) else (0,262) by rw [wholeR,hSe])
   clear hSe
   obtain ⟨RI,RN,hR⟩ : ∃ a b,wholeR (VI.dataL l) = (a,b):=⟨_,_,rfl⟩
   rw [hR] at HWR
   have HWH:=Ld hR
   clear hR
   have hand:=and_low a ⟨by omega,by omega⟩
   obtain ⟨u,hu⟩ : ∃ u,a % 4294967296 = u:=⟨_,rfl⟩
   obtain ⟨v,hv⟩ : ∃ v,a / 4294967296 = v:=⟨_,rfl⟩
   have hu0 : 0 ≤ u ∧ u ≤ 4294967295:=by omega
   have hv0 : 0 ≤ v ∧ v ≤ 1048576:=by omega
   obtain ⟨hu0,hu1⟩:=hu0
   obtain ⟨hv0,hv1⟩:=hv0
   have HUV:=Ld (show a = 4294967296 * v + u by omega)
   rw [hu] at hand
   obtain ⟨z,hz⟩ : ∃ z,b + v = z:=⟨_,rfl⟩
   have HZ:=Ld (show S = 4294967296 * z + u by rw [← hS.out,HUV.out];omega)
   have hz0 : -2251799813685248 ≤ z ∧ z ≤ 2251799814733824:=by omega
   obtain ⟨hz0,hz1⟩:=hz0
   by_cases h1 : z < -2147483648
   ·have HV:=Ld (HWR.out.trans (if_neg (by have:=HZ.out;omega)))
    clear HWR
    have h2 : ¬ (2147483648 : Int) ≤ z:=by omega
    go_wp2
    go_ret2
    exact ⟨by rw [HWH.out,HV.out];rfl,Below.refl _ _⟩
   ·by_cases h2 : (2147483648 : Int) ≤ z
    ·have HV:=Ld (HWR.out.trans (if_neg (by have:=HZ.out;omega)))
     clear HWR
     go_wp2
     go_ret2
     exact ⟨by rw [HWH.out,HV.out];rfl,Below.refl _ _⟩
    ·have HV:=Ld (HWR.out.trans (if_pos (by have:=HZ.out;omega)))
     clear HWR
     go_wp2
     go_ret2
     exact ⟨by rw [HWH.out,HV.out,HZ.out,Int.mul_comm];rfl,Below.refl _ _⟩
end
section
open Go.RowKit
set_option maxHeartbeats 4000000
set_option maxRecDepth 100000
theorem refFoldSum_c [Inhabited Thr] (A : Option Addr) (c : Nat) (t : TabD) (q : QryV) (B : Option Addr) (d : Nat) (l : List VI) (a : Nat) (w : World) (hR : RdT w A c t) (hQ : RdQ w q) (hL : RdI w B d l) (ha : findC t q.over = a) (hac : a < t.cols.length)
 (hf : q.fold = 4 ∨ q.fold = 5) (hkk : kindAt t a = 3 ∨ kindAt t a = 4) (hk : ∀ x ∈ l,x.k = kindAt t a) (hn : l.length ≤ 1048576) :
 Calls Tryz.prog 45 #[vT t A c,q.val,.slice B l.length d] w (FoldEnd (kindAt t a) q.fold (VI.dataL l) w):=by
 have HR:=Ld hR
 have HQ:=Ld hQ
 have HL:=Ld hL
 have HA:=Ld ha
 have hlb:=hL.hb
 have hll:=hn
 have HK:=Ld hk
 obtain ⟨kd,hkd⟩ : ∃ kd,kindAt t a = kd:=⟨_,rfl⟩
 have HKD:=Ld hkd
 rw [HKD.out] at hkk HK ⊢
 rcases t with ⟨tn,cols,keys⟩
 rcases q with ⟨qt,fr,tt,wh,qc,qd,ql,qf,qo,AF,cF,AT,cT,AW,cW,AC,cC⟩
 simp only [QryV.val,QryV.cells] at hf hac HA ⊢
 obtain ⟨W0,hW0⟩ : ∃ W0,(((w.alloc (.cells #[.string tn,.slice A cols.length c,.int .i64 keys] 27)).alloc (.cells #[.string qt,.slice AF fr.length cF,.slice AT tt.length cT,.slice AW wh.length cW,.slice AC qc.length cC,.bool qd,.int .i64 ql,.int .u8 qf,.string qo] 33)).alloc (.cells (c6 0 false 0 0 ⟨#[]⟩ none 0 0) 54)) = W0:=⟨_,rfl⟩
 have HW0:=Ld hW0
 have HBX:=Ld (fun W (h : Below (w.heap.size + 3) W0 W) => boxes_tqi (hW0 ▸ h))
 have HS0:=Ld (show W0.heap.size = w.heap.size + 3 by rw [← hW0];simp)
 have HWB:=Ld (show Below w.heap.size w W0 by rw [← hW0];exact (two_below w _ _).alloc (by simp;omega) _)
 have HCR:=Ld (show Rd w 3 A cols.length (ccells cols) from hR.rd)
 obtain ⟨tb,te,rfl⟩ : ∃ tb te,A = some ⟨tb,te,none⟩:=by obtain ⟨b,o,e,_⟩:=HCR.out.2 (by omega);exact ⟨b,o,e⟩
 have HCA:=Ld (fun W (h : Below (w.heap.size + 3) W0 W) => col_at (HCR.out.below (HBX.out W h).2.2.2.2) hac)
 have HKE:=Ld (show cols[a].kind = kd by rw [← HKD.out,kindAt,Int.toNat_natCast];simp only;rw [List.getElem?_eq_getElem hac])
 simp only [HKE.out] at HCA
 clear hR hQ hL ha hk hW0 hkd hn
 have HB0:=Ld (Below.refl (w.heap.size + 3) W0)
 go_enter Tryz.func45,Tryz.ntmps45
 go_upto_region 1 with fail
 rw [HW0.out]
 refine wp_region_sched (S:=fun W => Below (w.heap.size + 3) W0 W) [(0,true),(1,true),(2,true),(3,true),(4,true),(5,false),(6,true),(7,true),(8,true),(9,true)] (by kernel_rfl) (by kernel_rfl) (by kernel_rfl) (fun _ _ d _ _ h => by cases d <;> exact h) HB0.out.drew ?_
 repeat (apply sched_take;(exact rfl);rfl;(intro W hW;obtain ⟨⟨q0,q1,q2⟩,⟨a0,a1,a2,a3,a4,a5,a6,a7,a8⟩,_,q3,_⟩:=HBX.out W hW;obtain ⟨c0,c1,c2⟩:=HCA.out W hW;go_simp;(try with_reducible rfl));simp only [Act.put,List.setIfInBounds_toArray,List.set_cons_zero,List.set_cons_succ])
 apply sched_run;(exact rfl);rfl;intro K hK;go_simp
 refine (find_c (some ⟨tb,te,none⟩) c ⟨tn,cols,keys⟩ qo _ (HR.out.below (HBX.out _ HB0.out.drew).2.2.2.2)).mono ?_
 rw [HA.out]
 rintro e V1 ⟨rfl,hb⟩
 have HB1:=Ld (HB0.out.drew.trans (hb.mono (show w.heap.size + 3 ≤ W0.drew.heap.size by rw [show W0.drew.heap.size = W0.heap.size from rfl,HS0.out];exact Nat.le_refl _)))
 clear hb
 refine hK.out _ _ HB1.out (fun _ => ?_)
 clear hK K
 try simp only [Act.put,List.setIfInBounds_toArray,List.set_cons_zero,List.set_cons_succ]
 repeat (apply sched_take;(exact rfl);rfl;(intro W hW;obtain ⟨⟨q0,q1,q2⟩,⟨a0,a1,a2,a3,a4,a5,a6,a7,a8⟩,_,q3,_⟩:=HBX.out W hW;obtain ⟨c0,c1,c2⟩:=HCA.out W hW;go_simp;(try with_reducible rfl));simp only [Act.put,List.setIfInBounds_toArray,List.set_cons_zero,List.set_cons_succ])
 refine sched_done ?_
 obtain ⟨⟨q0,q1,q2⟩,⟨a0,a1,a2,a3,a4,a5,a6,a7,a8⟩,hrow,q3,q4⟩:=HBX.out _ HB1.out
 have HROW:=Ld hrow
 have HW:=Ld q4
 have HZ1:=Ld (show w.heap.size + 3 ≤ V1.heap.size from q3)
 clear q4 hrow
 clear HKE HKD
 rcases hf with rfl | rfl
 ·rcases hkk with rfl | rfl
  ·skip
   obtain ⟨RI,RN,hWR⟩ : ∃ a b,wholeR (VI.dataL l) = (a,b):=⟨_,_,rfl⟩
   have HWR:=Ld hWR
   have HWV:=Ld (fun w => wholeV_rd w (VI.dataL l))
   have HFO:=Ld (fok_sumI (kd:=3) (l:=VI.dataL l) (by decide))
   have HVE:=Ld (show wholeV (VI.dataL l) = if RN = 0 then VI.mk 3 false RI 0 ⟨#[]⟩ none 0 [] else VI.mk 0 false 0 0 ⟨#[]⟩ none 0 [] by rw [wholeV,hWR])
   have HN2:=Ld (show RN = 0 ∨ RN = 262 by have h:=hWR;rw [wholeR] at h;split at h <;> injection h with _ h2 <;> omega)
   rw [hWR] at HFO
   simp only at HFO
   clear hWR
   rcases HN2.out with rfl | rfl
   ·have HV:=Ld (HVE.out.trans (if_pos rfl))
    rw [HV.out] at HFO HWV
    clear HVE HN2
    go_wp2_with (first
     | (go_at_call 83;go_must (refine (refTotal_c B d l _ (HL.out.below HW.out) hll).mono ?_;rw [HWR.out];rintro e w2 ⟨rfl,hb⟩;have HB2:=Ld hb;have HRW2:=Ld (row_keep' HROW.out hb);clear hb q0 q1 q2 a0 a1 a2 a3 a4 a5 a6 a7 a8))
     | (refine wpList_store_row rfl 54 (.tmp 6) (.tmp 88) rfl (w.heap.size + 2) (c6 3 false RI 0 ⟨#[]⟩ none 0 0) rfl rfl 54 _ HRW2.out (by kernel_rfl) rfl (one6 _ _ _ _ _ _ _ _) ?_))
    have HBW:=Ld (HW.out.trans (HB2.out.mono HW.out.size))
    refine bodyPost_ret (results_ct rfl _ _ (w.heap.size + 2) 54 _ (0,0) _ rfl (setRow_block _ _ _ _ _ _ HRW2.out) Tryz.underlying54 rfl (by kernel_rfl)) rfl ⟨(VI.mk 3 false RI 0 ⟨#[]⟩ none 0 []),0,rfl,HFO.out,fold_done HBW.out (VI.mk 3 false RI 0 ⟨#[]⟩ none 0 []) (HWV.out _).1 ((HWV.out w).2.mono fun _ h => h.elim) _⟩
   ·have HV:=Ld (HVE.out.trans (if_neg (by decide)))
    rw [HV.out] at HFO HWV
    clear HVE HN2
    go_wp2_with (first
     | (go_at_call 83;go_must (refine (refTotal_c B d l _ (HL.out.below HW.out) hll).mono ?_;rw [HWR.out];rintro e w2 ⟨rfl,hb⟩;have HB2:=Ld hb;have HRW2:=Ld (row_keep' HROW.out hb);clear hb q0 q1 q2 a0 a1 a2 a3 a4 a5 a6 a7 a8))
     | (refine wpList_store_row rfl 54 (.tmp 6) (.tmp 86) rfl (w.heap.size + 2) (c6 0 false 0 0 ⟨#[]⟩ none 0 0) rfl rfl 54 _ HRW2.out (by kernel_rfl) rfl (one6 _ _ _ _ _ _ _ _) ?_))
    have HBW:=Ld (HW.out.trans (HB2.out.mono HW.out.size))
    refine bodyPost_ret (results_ct rfl _ _ (w.heap.size + 2) 54 _ (0,0) _ rfl (setRow_block _ _ _ _ _ _ HRW2.out) Tryz.underlying54 rfl (by kernel_rfl)) rfl ⟨(VI.mk 0 false 0 0 ⟨#[]⟩ none 0 []),262,rfl,HFO.out,fold_done HBW.out (VI.mk 0 false 0 0 ⟨#[]⟩ none 0 []) (HWV.out _).1 ((HWV.out w).2.mono fun _ h => h.elim) _⟩
  ·skip
   go_wp2
   go_loopw [15,14] (fun i v wr => ∃ (k s : Nat),k ≤ l.length ∧ i = .int .i64 k ∧ v = .float .f64 s ∧ Hid (FRes (((VI.dataL l).take k).foldl totS (some 0)) s) ∧ Hid (Below (w.heap.size + 3) W0 wr)) (fun i _ _ => l.length - (intOf i).toNat)
   case atStart => exact ⟨0,0,Nat.zero_le _,rfl,rfl,Ld ⟨rfl,by decide⟩,HB1⟩
   case round =>
    clear q0 q1 q2 a0 a1 a2 a3 a4 a5 a6 a7 a8 q3 HROW HW
    obtain ⟨k,s,hk,rfl,rfl,hs,hB⟩:=hrel
    obtain ⟨⟨q0,q1,q2⟩,⟨a0,a1,a2,a3,a4,a5,a6,a7,a8⟩,hrow,q3,q4⟩:=HBX.out _ hB.out
    have HROW:=Ld hrow
    have HW:=Ld q4
    have HZ:=Ld (show w.heap.size + 3 ≤ wr.heap.size from q3)
    clear q4 hrow
    by_cases hlt : k < l.length
    ·have HLr:=Ld (HL.out.below HW.out)
     obtain ⟨ab,ao,rfl⟩ : ∃ ab ao,B = some ⟨ab,ao,none⟩:=by obtain ⟨b,o,e,_⟩:=HLr.out.rd.2 (by omega);exact ⟨b,o,e⟩
     obtain ⟨p0,p1,p2,p3,p4,p5⟩:=item_at HLr.out.rd hlt
     have HTT:=Ld (tot_take l k hlt _ rfl)
     have hk3:=HK.out _ (List.getElem_mem hlt)
     obtain ⟨x,hx⟩ : ∃ x,l[k] = x:=⟨_,rfl⟩
     rw [hx] at p0 p1 p2 p3 p4 p5 HTT hk3
     clear hx
     rcases x with ⟨xk,xb,xn,xf,xt,xA,xc,xl⟩
     simp only [VI.k,VI.b,VI.n,VI.f,VI.t,VI.A,VI.c,VI.l] at p0 p1 p2 p3 p4 p5 HTT hk3
     rw [itemF_float (by rw [hk3];decide)] at HTT
     clear hk3
     go_wp2_with (refine wpList_float rfl .add (.inl rfl) _ _ (.tmp 108) (.tmp 109) rfl rfl rfl ?_;intro r w2 hr hb;have HR2:=Ld hr;have HB2:=Ld (hB.out.trans (hb.mono HZ.out));clear hr hb)
     exact ⟨⟨k + 1,r,by omega,by go_num,rfl,Ld (by rw [HTT.out];exact hs.out.add HR2.out),HB2⟩,by simp [intOf];omega⟩
    ·have HN:=Ld (show (VI.dataL l).take k = VI.dataL l from List.take_of_length_le (by rw [dataL_eq,List.length_map];omega))
     have HT:=Ld (show FRes (totO (VI.dataL l)) s by have:=hs.out;rw [HN.out] at this;exact this)
     clear hs HN
     go_wp2_with (refine wpList_store_row rfl 54 (.tmp 6) (.tmp 115) rfl (w.heap.size + 2) (c6 4 false 0 s ⟨#[]⟩ none 0 0) rfl rfl 54 _ HROW.out (by kernel_rfl) rfl (one6 _ _ _ _ _ _ _ _) ?_)
     refine bodyPost_ret (results_ct rfl _ _ (w.heap.size + 2) 54 _ (0,0) _ rfl (setRow_block _ _ _ _ _ _ HROW.out) Tryz.underlying54 rfl (by kernel_rfl)) rfl ⟨(floatV s),0,rfl,(fok_sumF rfl HT.out),fold_done HW.out (floatV s) (RdV.leaf _ (by decide) (by decide) HT.out.lt) .leaf _⟩
 ·rcases hkk with rfl | rfl
  ·skip
   go_wp2
   go_loopw [15,14] (fun i v wr => ∃ (k s : Nat),k ≤ l.length ∧ i = .int .i64 k ∧ v = .float .f64 s ∧ Hid (FRes (((VI.dataL l).take k).foldl totS (some 0)) s) ∧ Hid (Below (w.heap.size + 3) W0 wr)) (fun i _ _ => l.length - (intOf i).toNat)
   case atStart => exact ⟨0,0,Nat.zero_le _,rfl,rfl,Ld ⟨rfl,by decide⟩,HB1⟩
   case round =>
    clear q0 q1 q2 a0 a1 a2 a3 a4 a5 a6 a7 a8 q3 HROW HW
    obtain ⟨k,s,hk,rfl,rfl,hs,hB⟩:=hrel
    obtain ⟨⟨q0,q1,q2⟩,⟨a0,a1,a2,a3,a4,a5,a6,a7,a8⟩,hrow,q3,q4⟩:=HBX.out _ hB.out
    have HROW:=Ld hrow
    have HW:=Ld q4
    have HZ:=Ld (show w.heap.size + 3 ≤ wr.heap.size from q3)
    clear q4 hrow
    by_cases hlt : k < l.length
    ·have HLr:=Ld (HL.out.below HW.out)
     obtain ⟨ab,ao,rfl⟩ : ∃ ab ao,B = some ⟨ab,ao,none⟩:=by obtain ⟨b,o,e,_⟩:=HLr.out.rd.2 (by omega);exact ⟨b,o,e⟩
     obtain ⟨p0,p1,p2,p3,p4,p5⟩:=item_at HLr.out.rd hlt
     have HTT:=Ld (tot_take l k hlt _ rfl)
     have hk3:=HK.out _ (List.getElem_mem hlt)
     obtain ⟨x,hx⟩ : ∃ x,l[k] = x:=⟨_,rfl⟩
     rw [hx] at p0 p1 p2 p3 p4 p5 HTT hk3
     clear hx
     rcases x with ⟨xk,xb,xn,xf,xt,xA,xc,xl⟩
     simp only [VI.k,VI.b,VI.n,VI.f,VI.t,VI.A,VI.c,VI.l] at p0 p1 p2 p3 p4 p5 HTT hk3
     rw [itemF_int hk3] at HTT
     clear hk3
     go_wp2_with (refine wpList_float rfl .add (.inl rfl) _ _ (.tmp 108) (.tmp 109) rfl rfl rfl ?_;intro r w2 hr hb;have HR2:=Ld hr;have HB2:=Ld (hB.out.trans (hb.mono HZ.out));clear hr hb)
     exact ⟨⟨k + 1,r,by omega,by go_num,rfl,Ld (by rw [HTT.out];exact hs.out.add HR2.out),HB2⟩,by simp [intOf];omega⟩
    ·have HN:=Ld (show (VI.dataL l).take k = VI.dataL l from List.take_of_length_le (by rw [dataL_eq,List.length_map];omega))
     have HT:=Ld (show FRes (totO (VI.dataL l)) s by have:=hs.out;rw [HN.out] at this;exact this)
     clear hs HN
     by_cases he : l.length = 0
     ·have HFO:=Ld (show FoldOk 3 5 (VI.dataL l) nullV.data 0 by rw [List.eq_nil_of_length_eq_zero he];exact fok_none)
      have e1:=eqt he
      clear he
      go_wp2_with (refine wpList_store_row rfl 54 (.tmp 6) (.tmp 119) rfl (w.heap.size + 2) (c6 1 false 0 0 ⟨#[]⟩ none 0 0) rfl rfl 54 _ HROW.out (by kernel_rfl) rfl (one6 _ _ _ _ _ _ _ _) ?_)
      refine bodyPost_ret (results_ct rfl _ _ (w.heap.size + 2) 54 _ (0,0) _ rfl (setRow_block _ _ _ _ _ _ HROW.out) Tryz.underlying54 rfl (by kernel_rfl)) rfl ⟨nullV,0,rfl,HFO.out,fold_done HW.out nullV (RdV.leaf _ (by decide) (by decide) (by decide)) .leaf _⟩
     ·have hpos : 0 < l.length:=by omega
      have HLN0:=Ld (show (VI.dataL l).length = l.length by rw [dataL_eq,List.length_map])
      have HN0:=Ld (show VI.dataL l ≠ [] from fun h => by have h2:=HLN0.out;rw [h,List.length_nil] at h2;omega)
      have HLN:=Ld (show (VI.dataL l).length = l.length by rw [dataL_eq,List.length_map])
      have e1:=eqf hpos
      clear he
      go_wp2_with (first
       | (refine wpList_float rfl .quo (.inr rfl) _ _ (.tmp 120) (.tmp 123) rfl rfl rfl ?_;intro f w3 hf hb;have HF3:=Ld hf;have HB3:=Ld hb;have HRW3:=Ld (row_keep' HROW.out hb);clear hf hb)
       | (refine wpList_store_row rfl 54 (.tmp 6) (.tmp 125) rfl (w.heap.size + 2) (c6 4 false 0 f ⟨#[]⟩ none 0 0) rfl rfl 54 _ HRW3.out (by kernel_rfl) rfl (one6 _ _ _ _ _ _ _ _) ?_))
      have HBW:=Ld (HW.out.trans (HB3.out.mono HW.out.size))
      refine bodyPost_ret (results_ct rfl _ _ (w.heap.size + 2) 54 _ (0,0) _ rfl (setRow_block _ _ _ _ _ _ HRW3.out) Tryz.underlying54 rfl (by kernel_rfl)) rfl ⟨(floatV f),0,rfl,(fok_mean HN0.out HT.out (by rw [HLN.out];exact HF3.out)),fold_done HBW.out (floatV f) (RdV.leaf _ (by decide) (by decide) HF3.out.lt) .leaf _⟩
  ·skip
   go_wp2
   go_loopw [15,14] (fun i v wr => ∃ (k s : Nat),k ≤ l.length ∧ i = .int .i64 k ∧ v = .float .f64 s ∧ Hid (FRes (((VI.dataL l).take k).foldl totS (some 0)) s) ∧ Hid (Below (w.heap.size + 3) W0 wr)) (fun i _ _ => l.length - (intOf i).toNat)
   case atStart => exact ⟨0,0,Nat.zero_le _,rfl,rfl,Ld ⟨rfl,by decide⟩,HB1⟩
   case round =>
    clear q0 q1 q2 a0 a1 a2 a3 a4 a5 a6 a7 a8 q3 HROW HW
    obtain ⟨k,s,hk,rfl,rfl,hs,hB⟩:=hrel
    obtain ⟨⟨q0,q1,q2⟩,⟨a0,a1,a2,a3,a4,a5,a6,a7,a8⟩,hrow,q3,q4⟩:=HBX.out _ hB.out
    have HROW:=Ld hrow
    have HW:=Ld q4
    have HZ:=Ld (show w.heap.size + 3 ≤ wr.heap.size from q3)
    clear q4 hrow
    by_cases hlt : k < l.length
    ·have HLr:=Ld (HL.out.below HW.out)
     obtain ⟨ab,ao,rfl⟩ : ∃ ab ao,B = some ⟨ab,ao,none⟩:=by obtain ⟨b,o,e,_⟩:=HLr.out.rd.2 (by omega);exact ⟨b,o,e⟩
     obtain ⟨p0,p1,p2,p3,p4,p5⟩:=item_at HLr.out.rd hlt
     have HTT:=Ld (tot_take l k hlt _ rfl)
     have hk3:=HK.out _ (List.getElem_mem hlt)
     obtain ⟨x,hx⟩ : ∃ x,l[k] = x:=⟨_,rfl⟩
     rw [hx] at p0 p1 p2 p3 p4 p5 HTT hk3
     clear hx
     rcases x with ⟨xk,xb,xn,xf,xt,xA,xc,xl⟩
     simp only [VI.k,VI.b,VI.n,VI.f,VI.t,VI.A,VI.c,VI.l] at p0 p1 p2 p3 p4 p5 HTT hk3
     rw [itemF_float (by rw [hk3];decide)] at HTT
     clear hk3
     go_wp2_with (refine wpList_float rfl .add (.inl rfl) _ _ (.tmp 108) (.tmp 109) rfl rfl rfl ?_;intro r w2 hr hb;have HR2:=Ld hr;have HB2:=Ld (hB.out.trans (hb.mono HZ.out));clear hr hb)
     exact ⟨⟨k + 1,r,by omega,by go_num,rfl,Ld (by rw [HTT.out];exact hs.out.add HR2.out),HB2⟩,by simp [intOf];omega⟩
    ·have HN:=Ld (show (VI.dataL l).take k = VI.dataL l from List.take_of_length_le (by rw [dataL_eq,List.length_map];omega))
     have HT:=Ld (show FRes (totO (VI.dataL l)) s by have:=hs.out;rw [HN.out] at this;exact this)
     clear hs HN
     by_cases he : l.length = 0
     ·have HFO:=Ld (show FoldOk 4 5 (VI.dataL l) nullV.data 0 by rw [List.eq_nil_of_length_eq_zero he];exact fok_none)
      have e1:=eqt he
      clear he
      go_wp2_with (refine wpList_store_row rfl 54 (.tmp 6) (.tmp 119) rfl (w.heap.size + 2) (c6 1 false 0 0 ⟨#[]⟩ none 0 0) rfl rfl 54 _ HROW.out (by kernel_rfl) rfl (one6 _ _ _ _ _ _ _ _) ?_)
      refine bodyPost_ret (results_ct rfl _ _ (w.heap.size + 2) 54 _ (0,0) _ rfl (setRow_block _ _ _ _ _ _ HROW.out) Tryz.underlying54 rfl (by kernel_rfl)) rfl ⟨nullV,0,rfl,HFO.out,fold_done HW.out nullV (RdV.leaf _ (by decide) (by decide) (by decide)) .leaf _⟩
     ·have hpos : 0 < l.length:=by omega
      have HLN0:=Ld (show (VI.dataL l).length = l.length by rw [dataL_eq,List.length_map])
      have HN0:=Ld (show VI.dataL l ≠ [] from fun h => by have h2:=HLN0.out;rw [h,List.length_nil] at h2;omega)
      have HLN:=Ld (show (VI.dataL l).length = l.length by rw [dataL_eq,List.length_map])
      have e1:=eqf hpos
      clear he
      go_wp2_with (first
       | (refine wpList_float rfl .quo (.inr rfl) _ _ (.tmp 120) (.tmp 123) rfl rfl rfl ?_;intro f w3 hf hb;have HF3:=Ld hf;have HB3:=Ld hb;have HRW3:=Ld (row_keep' HROW.out hb);clear hf hb)
       | (refine wpList_store_row rfl 54 (.tmp 6) (.tmp 125) rfl (w.heap.size + 2) (c6 4 false 0 f ⟨#[]⟩ none 0 0) rfl rfl 54 _ HRW3.out (by kernel_rfl) rfl (one6 _ _ _ _ _ _ _ _) ?_))
      have HBW:=Ld (HW.out.trans (HB3.out.mono HW.out.size))
      refine bodyPost_ret (results_ct rfl _ _ (w.heap.size + 2) 54 _ (0,0) _ rfl (setRow_block _ _ _ _ _ _ HRW3.out) Tryz.underlying54 rfl (by kernel_rfl)) rfl ⟨(floatV f),0,rfl,(fok_mean HN0.out HT.out (by rw [HLN.out];exact HF3.out)),fold_done HBW.out (floatV f) (RdV.leaf _ (by decide) (by decide) HF3.out.lt) .leaf _⟩
end
end Go.Proofs.YtonjgedhmmnolaaGreatDoor
