import Derived.Test.YtonjgedhmmnolaaGreatDoorZ21
namespace Go.Proofs.YtonjgedhmmnolaaGreatDoor
section
open Go.RowKit
set_option maxHeartbeats 2000000
set_option maxRecDepth 100000
theorem esc_app (a b : List UInt8) : esc (a ++ b) = esc a ++ esc b:=List.flatMap_append
theorem esc_take (t : ByteArray) (k : Nat) (h : k < t.size) : esc (t.data.toList.take (k + 1)) = esc (t.data.toList.take k) ++ (if t[k] = 0 then [0,255] else [t[k]]):=by
 have hl : k < t.data.toList.length:=by rw [Array.length_toList];exact h
 rw [← List.take_append_getElem hl,esc_app]
 have e : t.data.toList[k] = t[k]:=rfl
 rw [e,esc_cons]
 simp [esc]
theorem bytes_app (a b : List UInt8) : (⟨a.toArray⟩ : ByteArray) ++ ⟨b.toArray⟩ = ⟨(a ++ b).toArray⟩:=by
 apply ByteArray.ext
 simp
theorem box_i {w W : World} {cs : Array Value} (h : Below (w.heap.size + 1) (w.alloc (.cells cs 54)) W) : W.heap[w.heap.size]? = some (.cells cs 54 (0,0)) ∧ w.heap.size < W.heap.size ∧ Below w.heap.size w W:=by
 have h0 : W.heap[w.heap.size]? = some (.cells cs 54 (0,0)):=(h.block _ (by omega)).trans (heap_alloc_new w _)
 exact ⟨h0,(Array.getElem?_eq_some_iff.1 h0).1,((Below.refl _ _).alloc (Nat.le_refl _) _).trans (h.mono (by omega))⟩
def AllIH [Inhabited Thr] (s : Nat) : Prop:=∀ (l : List VI) (A : Option Addr) (c : Nat) (w : World),SizeOf.sizeOf l ≤ s → RdI w A c l → okL (VI.dataL l) = true → sizeL (VI.dataL l) ≤ 4096 →
    Calls Tryz.prog 119 #[.slice A l.length c] w fun e w' => e = .returned (.string ⟨(packL (VI.dataL l)).toArray⟩) ∧ Below w.heap.size w w'
theorem OwnB.laid (w : World) (bs : List UInt8) (h1 : bs.length ≤ 1000) {n : Nat} (hn : n = bs.length) {g : Nat} (hg : g = w.heap.size) {B : Nat} (hB : B ≤ w.heap.size) : OwnB (w.alloc (.cells (bts bs).toArray 5)) B (.slice (some ⟨g,0,none⟩) n n) bs:=by
 subst hn hg
 have hl:=bts_len bs
 refine ⟨hl.trans (Nat.mul_one _).symm,.inr ⟨w.heap.size,bs.length,(bts bs).toArray,rfl,hB,heap_alloc_new w _,Nat.le_refl _,?_,by simp [hl],by simp [List.take_of_length_le (Nat.le_of_eq hl)]⟩⟩
 unfold maxLen;omega
theorem byte_lo {m : Nat} (h : m ≤ 8) : IntKind.u8.wrap (IntKind.i64.wrap (20 - (m : Int))) = ((UInt8.ofNat (20 - m)).toNat : Int):=by
 rw [IntWalk.i64_in _ (by omega),IntWalk.u8_in _ (by omega),UInt8.toNat_ofNat'];omega
theorem byte_hi {m : Nat} (h : m ≤ 8) : IntKind.u8.wrap (IntKind.i64.wrap (20 + (m : Int))) = ((UInt8.ofNat (20 + m)).toNat : Int):=by
 rw [IntWalk.i64_in _ (by omega),IntWalk.u8_in _ (by omega),UInt8.toNat_ofNat'];omega
theorem neg_u64 {n : Int} (hn : -9223372036854775808 ≤ n ∧ n ≤ 9223372036854775807) (h : n < 0) : IntKind.u64.wrap (IntKind.u64.wrap n - 1) = (((n - 1) % 18446744073709551616).toNat : Int):=by
 simp [IntKind.wrap,IntKind.bits,IntKind.signed]
 omega
theorem pos_u64 {n : Int} (hn : -9223372036854775808 ≤ n ∧ n ≤ 9223372036854775807) (h : 0 ≤ n) : IntKind.u64.wrap n = ((n.toNat : Nat) : Int):=by
 rw [IntWalk.u64_in _ (by omega)];omega
theorem conv_new {w W : World} {g : Nat} {c : UInt8} (hg : g = w.heap.size) (hb : Below (w.heap.size + 1) (w.alloc (.cells #[.int .u8 c.toNat] 5)) W) : (convert 35 9 (.slice (some ⟨g,0,none⟩) 1 1)).run Tryz.prog W = .ok (.string ⟨[c].toArray⟩) W:=by
 subst hg
 have h0:=rd_new1 w c rfl
 exact run_back_rd (bs:=[c]) (c:=1) (h0.below (hb.mono (by simp)))
theorem oneK1_c [Inhabited Thr] (s : Nat) (IH : AllIH s) (x : VI) (w : World) (hs : SizeOf.sizeOf x.l ≤ s) (hX : RdV w x) (hok : okI x.data = true) (hz : sizeI x.data ≤ 4096) (hk : x.k = 1) :
 Calls Tryz.prog 137 #[x.val] w fun e w' => e = .returned (.string ⟨(packI x.data).toArray⟩) ∧ Below w.heap.size w w':=by
 have HX:=Ld hX
 have HIH:=Ld IH
 have HSX:=Ld hs
 have HP:=Ld (packI_eq x)
 have HZ:=Ld hz
 have HOK:=Ld hok
 clear hX hs hok hz IH
 rcases x with ⟨xk,xb,xn,xf,xt,xA,xc,xl⟩
 simp only [VI.val,VI.k,VI.b,VI.n,VI.f,VI.t,VI.A,VI.c,VI.l] at *
 subst hk
 obtain ⟨R,hR⟩ : ∃ R,packI (VI.mk 1 xb xn xf xt xA xc xl).data = R:=⟨_,rfl⟩
 rw [hR] at HP ⊢
 clear hR
 obtain ⟨W0,hW0⟩ : ∃ W0,w.alloc (.cells #[.int .u8 1,.bool xb,.int .i64 xn,.float .f64 xf,.string xt,.slice xA xl.length xc] 54) = W0:=⟨_,rfl⟩
 have HW0:=Ld hW0
 have HBX:=Ld (fun W (h : Below (w.heap.size + 1) W0 W) => box_i (hW0 ▸ h))
 have HS0:=Ld (show W0.heap.size = w.heap.size + 1 by rw [← hW0];simp)
 have HB0:=Ld (show Below w.heap.size w W0 by rw [← hW0];exact (Below.refl _ _).alloc (Nat.le_refl _) _)
 clear hW0
 go_enter Tryz.func137,Tryz.ntmps137
 go_upto_region 1 with fail
 rw [HW0.out]
 obtain ⟨p,_,_⟩:=HBX.out W0 (Below.refl _ _)
 have p0:=cell_of_row _ _ 0 _ _ _ p
 have p1:=cell_of_row _ _ 1 _ _ _ p
 have p2:=cell_of_row _ _ 2 _ _ _ p
 have p3:=cell_of_row _ _ 3 _ _ _ p
 have p4:=cell_of_row _ _ 4 _ _ _ p
 have p5:=cell_of_row _ _ 5 _ _ _ p
 clear p
 ·have HR:=Ld (show R = [1] by rw [HP.out];rfl)
  clear HP
  go_wp2
  go_ret
  exact ⟨ret_eq (by rw [HR.out];rfl),HB0.out⟩
theorem oneK2_c [Inhabited Thr] (s : Nat) (IH : AllIH s) (x : VI) (w : World) (hs : SizeOf.sizeOf x.l ≤ s) (hX : RdV w x) (hok : okI x.data = true) (hz : sizeI x.data ≤ 4096) (hk : x.k = 2) :
 Calls Tryz.prog 137 #[x.val] w fun e w' => e = .returned (.string ⟨(packI x.data).toArray⟩) ∧ Below w.heap.size w w':=by
 have HX:=Ld hX
 have HIH:=Ld IH
 have HSX:=Ld hs
 have HP:=Ld (packI_eq x)
 have HZ:=Ld hz
 have HOK:=Ld hok
 clear hX hs hok hz IH
 rcases x with ⟨xk,xb,xn,xf,xt,xA,xc,xl⟩
 simp only [VI.val,VI.k,VI.b,VI.n,VI.f,VI.t,VI.A,VI.c,VI.l] at *
 subst hk
 obtain ⟨R,hR⟩ : ∃ R,packI (VI.mk 2 xb xn xf xt xA xc xl).data = R:=⟨_,rfl⟩
 rw [hR] at HP ⊢
 clear hR
 obtain ⟨W0,hW0⟩ : ∃ W0,w.alloc (.cells #[.int .u8 2,.bool xb,.int .i64 xn,.float .f64 xf,.string xt,.slice xA xl.length xc] 54) = W0:=⟨_,rfl⟩
 have HW0:=Ld hW0
 have HBX:=Ld (fun W (h : Below (w.heap.size + 1) W0 W) => box_i (hW0 ▸ h))
 have HS0:=Ld (show W0.heap.size = w.heap.size + 1 by rw [← hW0];simp)
 have HB0:=Ld (show Below w.heap.size w W0 by rw [← hW0];exact (Below.refl _ _).alloc (Nat.le_refl _) _)
 clear hW0
 go_enter Tryz.func137,Tryz.ntmps137
 go_upto_region 1 with fail
 rw [HW0.out]
 obtain ⟨p,_,_⟩:=HBX.out W0 (Below.refl _ _)
 have p0:=cell_of_row _ _ 0 _ _ _ p
 have p1:=cell_of_row _ _ 1 _ _ _ p
 have p2:=cell_of_row _ _ 2 _ _ _ p
 have p3:=cell_of_row _ _ 3 _ _ _ p
 have p4:=cell_of_row _ _ 4 _ _ _ p
 have p5:=cell_of_row _ _ 5 _ _ _ p
 clear p
 ·cases xb
  ·have HR:=Ld (show R = [2] by rw [HP.out];rfl)
   clear HP
   go_wp2
   go_ret
   exact ⟨ret_eq (by rw [HR.out];rfl),HB0.out⟩
  ·have HR:=Ld (show R = [3] by rw [HP.out];rfl)
   clear HP
   go_wp2
   go_ret
   exact ⟨ret_eq (by rw [HR.out];rfl),HB0.out⟩
theorem oneK3_c [Inhabited Thr] (s : Nat) (IH : AllIH s) (x : VI) (w : World) (hs : SizeOf.sizeOf x.l ≤ s) (hX : RdV w x) (hok : okI x.data = true) (hz : sizeI x.data ≤ 4096) (hk : x.k = 3) :
 Calls Tryz.prog 137 #[x.val] w fun e w' => e = .returned (.string ⟨(packI x.data).toArray⟩) ∧ Below w.heap.size w w':=by
 have HX:=Ld hX
 have HIH:=Ld IH
 have HSX:=Ld hs
 have HP:=Ld (packI_eq x)
 have HZ:=Ld hz
 have HOK:=Ld hok
 clear hX hs hok hz IH
 rcases x with ⟨xk,xb,xn,xf,xt,xA,xc,xl⟩
 simp only [VI.val,VI.k,VI.b,VI.n,VI.f,VI.t,VI.A,VI.c,VI.l] at *
 subst hk
 obtain ⟨R,hR⟩ : ∃ R,packI (VI.mk 3 xb xn xf xt xA xc xl).data = R:=⟨_,rfl⟩
 rw [hR] at HP ⊢
 clear hR
 obtain ⟨W0,hW0⟩ : ∃ W0,w.alloc (.cells #[.int .u8 3,.bool xb,.int .i64 xn,.float .f64 xf,.string xt,.slice xA xl.length xc] 54) = W0:=⟨_,rfl⟩
 have HW0:=Ld hW0
 have HBX:=Ld (fun W (h : Below (w.heap.size + 1) W0 W) => box_i (hW0 ▸ h))
 have HS0:=Ld (show W0.heap.size = w.heap.size + 1 by rw [← hW0];simp)
 have HB0:=Ld (show Below w.heap.size w W0 by rw [← hW0];exact (Below.refl _ _).alloc (Nat.le_refl _) _)
 clear hW0
 go_enter Tryz.func137,Tryz.ntmps137
 go_upto_region 1 with fail
 rw [HW0.out]
 obtain ⟨p,_,_⟩:=HBX.out W0 (Below.refl _ _)
 have p0:=cell_of_row _ _ 0 _ _ _ p
 have p1:=cell_of_row _ _ 1 _ _ _ p
 have p2:=cell_of_row _ _ 2 _ _ _ p
 have p3:=cell_of_row _ _ 3 _ _ _ p
 have p4:=cell_of_row _ _ 4 _ _ _ p
 have p5:=cell_of_row _ _ 5 _ _ _ p
 clear p
 ·have hn8:=needN_le xn.natAbs
  have HXN:=Ld HX.out.hn
  have HNA:=Ld (show xn.natAbs < 18446744073709551616 by have:=HX.out.hn;simp only [VI.n] at this;omega)
  have HFIN:=Ld (fun (W : World) (h : Below (w.heap.size + 1) W0 W) => (HBX.out W h).2.2)
  simp only [VI.n] at HXN
  by_cases h0 : xn < 0
  ·have HR0:=Ld (show R = UInt8.ofNat (20 - needN xn.natAbs) :: bigB ((xn - 1) % 18446744073709551616).toNat (needN xn.natAbs) by rw [HP.out];exact if_pos h0)
   have HU0:=Ld (neg_u64 HXN.out h0)
   have HUM0:=Ld (show ((xn - 1) % 18446744073709551616).toNat < 18446744073709551616 by omega)
   have HBY0:=Ld (byte_lo hn8)
   obtain ⟨um,hum⟩ : ∃ n,((xn - 1) % 18446744073709551616).toNat = n:=⟨_,rfl⟩
   obtain ⟨m,hm⟩ : ∃ n,needN xn.natAbs = n:=⟨_,rfl⟩
   obtain ⟨cb,hcb⟩ : ∃ c,UInt8.ofNat (20 - needN xn.natAbs) = c:=⟨_,rfl⟩
   rw [hum] at HUM0 HU0 HR0
   rw [hcb] at HR0 HBY0
   rw [hm] at HR0 HBY0 hn8
   have HM:=Ld hm
   have HUM:=HUM0
   have HU:=HU0
   have HBY:=HBY0
   have HR:=HR0
   clear hum hm hcb HP HUM0 HU0 HBY0 HR0
   go_upto_region 12 with (first
    | (go_at_call 124;go_must (refine (refFar_c xn HXN.out _).mono ?_;rintro e w1 ⟨rfl,rfl⟩))
    | (go_at_call 123;go_must (refine (refNeed_c xn.natAbs HNA.out _).mono ?_;rw [HM.out];rintro e w1 ⟨rfl,rfl⟩)))
   clear p0 p1 p2 p3 p4 p5
   have hov : ¬ 9223372036854775807 < 1 + (bigB um m).length:=by rw [bigB_len];omega
   refine wp_region_tree (S:=fun W => Below (w.heap.size + 1) W0 W) (.take 0 (.take 1 (.take 2 (.take 5 (.take 6 (.take 7 (.take 8 (.take 9 (.two 3 10 (.two 4 10 (.run 10 (.take 11 (.take 12 (.done)))) (.run 4 (.take 11 (.take 12 (.done))))) (.run 3 (.run 4 (.take 11 (.take 12 (.done)))))))))))))) (by kernel_rfl) (by kernel_rfl) (by kernel_rfl) (fun _ _ d _ _ h => by cases d <;> exact h) (Below.refl _ _).drew ?_
   have hd:=(Below.refl (w.heap.size + 1) W0).drew
   repeat (apply tree_take;(exact rfl);rfl;(intro W hW;obtain ⟨p,_,_⟩:=HBX.out W hW;have p2:=cell_of_row _ _ 2 _ _ _ p;clear p;go_simp;(try with_reducible rfl));simp only [Act.put,List.setIfInBounds_toArray,List.set_cons_zero,List.set_cons_succ])
   refine tree_two ?_ ?_
   ·apply tree_run;(exact rfl);rfl;intro K hK;go_simp
    try rw [HBY.out]
    have ha:=hd.alloc (show w.heap.size + 1 ≤ _ from Nat.le_trans (Nat.le_of_eq HS0.out.symm) hd.size) (.cells #[.int .u8 cb.toNat] 5)
    refine hK.out _ _ ha (fun _ => ?_)
    clear hK K
    try simp only [Act.put,List.setIfInBounds_toArray,List.set_cons_zero,List.set_cons_succ]
    refine tree_two ?_ ?_
    ·apply tree_run;(exact rfl);rfl;intro K hK
     have hcv:=conv_new (g:=W0.heap.size) (c:=cb) rfl ((Below.refl _ _).drew)
     go_simp
     refine hK.out _ _ ha (fun _ => ?_)
     clear hK K hcv
     try simp only [Act.put,List.setIfInBounds_toArray,List.set_cons_zero,List.set_cons_succ]
     apply tree_run;(exact rfl);rfl;intro K hK;go_simp
     try rw [HU.out]
     refine (refWhole_c um m _ HUM.out (by assumption)).mono ?_
     rintro e V ⟨rfl,hv⟩
     have hb:=ha.trans (hv.mono (Nat.le_trans (Nat.le_of_eq HS0.out.symm) ha.size))
     have hv:=hv
     clear hv
     refine hK.out _ _ hb (fun _ => ?_)
     clear hK K
     try simp only [Act.put,List.setIfInBounds_toArray,List.set_cons_zero,List.set_cons_succ]
     repeat (apply tree_take;(exact rfl);rfl;(intro W hW;obtain ⟨p,_,_⟩:=HBX.out W hW;have p2:=cell_of_row _ _ 2 _ _ _ p;clear p;go_simp;(try with_reducible rfl));simp only [Act.put,List.setIfInBounds_toArray,List.set_cons_zero,List.set_cons_succ])
     refine tree_done ?_
     go_wp2
     go_ret
     exact ⟨ret_eq (by rw [HR.out];first | rfl | exact congrArg Value.string (bytes_app _ _)),HFIN.out _ hb⟩
    ·apply tree_run;(exact rfl);rfl;intro K hK;go_simp
     try rw [HU.out]
     refine (refWhole_c um m _ HUM.out (by assumption)).mono ?_
     rintro e V ⟨rfl,hv⟩
     have hb:=ha.trans (hv.mono (Nat.le_trans (Nat.le_of_eq HS0.out.symm) ha.size))
     have hv:=hv
     clear hv
     refine hK.out _ _ hb (fun _ => ?_)
     clear hK K
     try simp only [Act.put,List.setIfInBounds_toArray,List.set_cons_zero,List.set_cons_succ]
     apply tree_run;(exact rfl);rfl;intro K hK
     have hcv:=conv_new (g:=W0.heap.size) (c:=cb) rfl ((Below.refl _ _).drew.trans (hv.mono (by simp)))
     go_simp
     refine hK.out _ _ hb (fun _ => ?_)
     clear hK K hcv
     try simp only [Act.put,List.setIfInBounds_toArray,List.set_cons_zero,List.set_cons_succ]
     repeat (apply tree_take;(exact rfl);rfl;(intro W hW;obtain ⟨p,_,_⟩:=HBX.out W hW;have p2:=cell_of_row _ _ 2 _ _ _ p;clear p;go_simp;(try with_reducible rfl));simp only [Act.put,List.setIfInBounds_toArray,List.set_cons_zero,List.set_cons_succ])
     refine tree_done ?_
     go_wp2
     go_ret
     exact ⟨ret_eq (by rw [HR.out];first | rfl | exact congrArg Value.string (bytes_app _ _)),HFIN.out _ hb⟩
   ·apply tree_run;(exact rfl);rfl;intro K hK;go_simp
    try rw [HU.out]
    refine (refWhole_c um m _ HUM.out (by assumption)).mono ?_
    rintro e V ⟨rfl,hv⟩
    have ha:=hd.trans (hv.mono (Nat.le_trans (Nat.le_of_eq HS0.out.symm) hd.size))
    have hv:=hv
    clear hv
    refine hK.out _ _ ha (fun _ => ?_)
    clear hK K
    try simp only [Act.put,List.setIfInBounds_toArray,List.set_cons_zero,List.set_cons_succ]
    have hq:=ha
    apply tree_run;(exact rfl);rfl;intro K hK;go_simp
    try rw [HBY.out]
    have hb:=hq.alloc (show w.heap.size + 1 ≤ _ from Nat.le_trans (Nat.le_of_eq HS0.out.symm) hq.size) (.cells #[.int .u8 cb.toNat] 5)
    refine hK.out _ _ hb (fun _ => ?_)
    clear hK K
    try simp only [Act.put,List.setIfInBounds_toArray,List.set_cons_zero,List.set_cons_succ]
    apply tree_run;(exact rfl);rfl;intro K hK
    have hcv:=conv_new (g:=V.heap.size) (c:=cb) rfl (Below.refl _ _)
    go_simp
    refine hK.out _ _ hb (fun _ => ?_)
    clear hK K hcv
    try simp only [Act.put,List.setIfInBounds_toArray,List.set_cons_zero,List.set_cons_succ]
    repeat (apply tree_take;(exact rfl);rfl;(intro W hW;obtain ⟨p,_,_⟩:=HBX.out W hW;have p2:=cell_of_row _ _ 2 _ _ _ p;clear p;go_simp;(try with_reducible rfl));simp only [Act.put,List.setIfInBounds_toArray,List.set_cons_zero,List.set_cons_succ])
    refine tree_done ?_
    go_wp2
    go_ret
    exact ⟨ret_eq (by rw [HR.out];first | rfl | exact congrArg Value.string (bytes_app _ _)),HFIN.out _ hb⟩
  ·have h0 : 0 ≤ xn:=by omega
   have HR0:=Ld (show R = UInt8.ofNat (20 + needN xn.natAbs) :: bigB xn.toNat (needN xn.natAbs) by rw [HP.out];exact if_neg (by omega))
   have HU0:=Ld (pos_u64 HXN.out h0)
   have HUM0:=Ld (show xn.toNat < 18446744073709551616 by have:=HXN.out;omega)
   have HBY0:=Ld (byte_hi hn8)
   obtain ⟨um,hum⟩ : ∃ n,xn.toNat = n:=⟨_,rfl⟩
   obtain ⟨m,hm⟩ : ∃ n,needN xn.natAbs = n:=⟨_,rfl⟩
   obtain ⟨cb,hcb⟩ : ∃ c,UInt8.ofNat (20 + needN xn.natAbs) = c:=⟨_,rfl⟩
   rw [hum] at HUM0 HU0 HR0
   rw [hcb] at HR0 HBY0
   rw [hm] at HR0 HBY0 hn8
   have HM:=Ld hm
   have HUM:=HUM0
   have HU:=HU0
   have HBY:=HBY0
   have HR:=HR0
   clear hum hm hcb HP HUM0 HU0 HBY0 HR0
   go_upto_region 11 with (first
    | (go_at_call 124;go_must (refine (refFar_c xn HXN.out _).mono ?_;rintro e w1 ⟨rfl,rfl⟩))
    | (go_at_call 123;go_must (refine (refNeed_c xn.natAbs HNA.out _).mono ?_;rw [HM.out];rintro e w1 ⟨rfl,rfl⟩)))
   clear p0 p1 p2 p3 p4 p5
   have hov : ¬ 9223372036854775807 < 1 + (bigB um m).length:=by rw [bigB_len];omega
   refine wp_region_tree (S:=fun W => Below (w.heap.size + 1) W0 W) (.take 0 (.take 1 (.take 2 (.take 5 (.take 6 (.take 7 (.take 8 (.two 3 9 (.two 4 9 (.run 9 (.take 10 (.take 11 (.done)))) (.run 4 (.take 10 (.take 11 (.done))))) (.run 3 (.run 4 (.take 10 (.take 11 (.done))))))))))))) (by kernel_rfl) (by kernel_rfl) (by kernel_rfl) (fun _ _ d _ _ h => by cases d <;> exact h) (Below.refl _ _).drew ?_
   have hd:=(Below.refl (w.heap.size + 1) W0).drew
   repeat (apply tree_take;(exact rfl);rfl;(intro W hW;obtain ⟨p,_,_⟩:=HBX.out W hW;have p2:=cell_of_row _ _ 2 _ _ _ p;clear p;go_simp;(try with_reducible rfl));simp only [Act.put,List.setIfInBounds_toArray,List.set_cons_zero,List.set_cons_succ])
   refine tree_two ?_ ?_
   ·apply tree_run;(exact rfl);rfl;intro K hK;go_simp
    try rw [HBY.out]
    have ha:=hd.alloc (show w.heap.size + 1 ≤ _ from Nat.le_trans (Nat.le_of_eq HS0.out.symm) hd.size) (.cells #[.int .u8 cb.toNat] 5)
    refine hK.out _ _ ha (fun _ => ?_)
    clear hK K
    try simp only [Act.put,List.setIfInBounds_toArray,List.set_cons_zero,List.set_cons_succ]
    refine tree_two ?_ ?_
    ·apply tree_run;(exact rfl);rfl;intro K hK
     have hcv:=conv_new (g:=W0.heap.size) (c:=cb) rfl ((Below.refl _ _).drew)
     go_simp
     refine hK.out _ _ ha (fun _ => ?_)
     clear hK K hcv
     try simp only [Act.put,List.setIfInBounds_toArray,List.set_cons_zero,List.set_cons_succ]
     apply tree_run;(exact rfl);rfl;intro K hK;go_simp
     try rw [HU.out]
     refine (refWhole_c um m _ HUM.out (by assumption)).mono ?_
     rintro e V ⟨rfl,hv⟩
     have hb:=ha.trans (hv.mono (Nat.le_trans (Nat.le_of_eq HS0.out.symm) ha.size))
     have hv:=hv
     clear hv
     refine hK.out _ _ hb (fun _ => ?_)
     clear hK K
     try simp only [Act.put,List.setIfInBounds_toArray,List.set_cons_zero,List.set_cons_succ]
     repeat (apply tree_take;(exact rfl);rfl;(intro W hW;obtain ⟨p,_,_⟩:=HBX.out W hW;have p2:=cell_of_row _ _ 2 _ _ _ p;clear p;go_simp;(try with_reducible rfl));simp only [Act.put,List.setIfInBounds_toArray,List.set_cons_zero,List.set_cons_succ])
     refine tree_done ?_
     go_wp2
     go_ret
     exact ⟨ret_eq (by rw [HR.out];first | rfl | exact congrArg Value.string (bytes_app _ _)),HFIN.out _ hb⟩
    ·apply tree_run;(exact rfl);rfl;intro K hK;go_simp
     try rw [HU.out]
     refine (refWhole_c um m _ HUM.out (by assumption)).mono ?_
     rintro e V ⟨rfl,hv⟩
     have hb:=ha.trans (hv.mono (Nat.le_trans (Nat.le_of_eq HS0.out.symm) ha.size))
     have hv:=hv
     clear hv
     refine hK.out _ _ hb (fun _ => ?_)
     clear hK K
     try simp only [Act.put,List.setIfInBounds_toArray,List.set_cons_zero,List.set_cons_succ]
     apply tree_run;(exact rfl);rfl;intro K hK
     have hcv:=conv_new (g:=W0.heap.size) (c:=cb) rfl ((Below.refl _ _).drew.trans (hv.mono (by simp)))
     go_simp
     refine hK.out _ _ hb (fun _ => ?_)
     clear hK K hcv
     try simp only [Act.put,List.setIfInBounds_toArray,List.set_cons_zero,List.set_cons_succ]
     repeat (apply tree_take;(exact rfl);rfl;(intro W hW;obtain ⟨p,_,_⟩:=HBX.out W hW;have p2:=cell_of_row _ _ 2 _ _ _ p;clear p;go_simp;(try with_reducible rfl));simp only [Act.put,List.setIfInBounds_toArray,List.set_cons_zero,List.set_cons_succ])
     refine tree_done ?_
     go_wp2
     go_ret
     exact ⟨ret_eq (by rw [HR.out];first | rfl | exact congrArg Value.string (bytes_app _ _)),HFIN.out _ hb⟩
   ·apply tree_run;(exact rfl);rfl;intro K hK;go_simp
    try rw [HU.out]
    refine (refWhole_c um m _ HUM.out (by assumption)).mono ?_
    rintro e V ⟨rfl,hv⟩
    have ha:=hd.trans (hv.mono (Nat.le_trans (Nat.le_of_eq HS0.out.symm) hd.size))
    have hv:=hv
    clear hv
    refine hK.out _ _ ha (fun _ => ?_)
    clear hK K
    try simp only [Act.put,List.setIfInBounds_toArray,List.set_cons_zero,List.set_cons_succ]
    have hq:=ha
    apply tree_run;(exact rfl);rfl;intro K hK;go_simp
    try rw [HBY.out]
    have hb:=hq.alloc (show w.heap.size + 1 ≤ _ from Nat.le_trans (Nat.le_of_eq HS0.out.symm) hq.size) (.cells #[.int .u8 cb.toNat] 5)
    refine hK.out _ _ hb (fun _ => ?_)
    clear hK K
    try simp only [Act.put,List.setIfInBounds_toArray,List.set_cons_zero,List.set_cons_succ]
    apply tree_run;(exact rfl);rfl;intro K hK
    have hcv:=conv_new (g:=V.heap.size) (c:=cb) rfl (Below.refl _ _)
    go_simp
    refine hK.out _ _ hb (fun _ => ?_)
    clear hK K hcv
    try simp only [Act.put,List.setIfInBounds_toArray,List.set_cons_zero,List.set_cons_succ]
    repeat (apply tree_take;(exact rfl);rfl;(intro W hW;obtain ⟨p,_,_⟩:=HBX.out W hW;have p2:=cell_of_row _ _ 2 _ _ _ p;clear p;go_simp;(try with_reducible rfl));simp only [Act.put,List.setIfInBounds_toArray,List.set_cons_zero,List.set_cons_succ])
    refine tree_done ?_
    go_wp2
    go_ret
    exact ⟨ret_eq (by rw [HR.out];first | rfl | exact congrArg Value.string (bytes_app _ _)),HFIN.out _ hb⟩
theorem oneK4_c [Inhabited Thr] (s : Nat) (IH : AllIH s) (x : VI) (w : World) (hs : SizeOf.sizeOf x.l ≤ s) (hX : RdV w x) (hok : okI x.data = true) (hz : sizeI x.data ≤ 4096) (hk : x.k = 4) :
 Calls Tryz.prog 137 #[x.val] w fun e w' => e = .returned (.string ⟨(packI x.data).toArray⟩) ∧ Below w.heap.size w w':=by
 have HX:=Ld hX
 have HIH:=Ld IH
 have HSX:=Ld hs
 have HP:=Ld (packI_eq x)
 have HZ:=Ld hz
 have HOK:=Ld hok
 clear hX hs hok hz IH
 rcases x with ⟨xk,xb,xn,xf,xt,xA,xc,xl⟩
 simp only [VI.val,VI.k,VI.b,VI.n,VI.f,VI.t,VI.A,VI.c,VI.l] at *
 subst hk
 obtain ⟨R,hR⟩ : ∃ R,packI (VI.mk 4 xb xn xf xt xA xc xl).data = R:=⟨_,rfl⟩
 rw [hR] at HP ⊢
 clear hR
 obtain ⟨W0,hW0⟩ : ∃ W0,w.alloc (.cells #[.int .u8 4,.bool xb,.int .i64 xn,.float .f64 xf,.string xt,.slice xA xl.length xc] 54) = W0:=⟨_,rfl⟩
 have HW0:=Ld hW0
 have HBX:=Ld (fun W (h : Below (w.heap.size + 1) W0 W) => box_i (hW0 ▸ h))
 have HS0:=Ld (show W0.heap.size = w.heap.size + 1 by rw [← hW0];simp)
 have HB0:=Ld (show Below w.heap.size w W0 by rw [← hW0];exact (Below.refl _ _).alloc (Nat.le_refl _) _)
 clear hW0
 go_enter Tryz.func137,Tryz.ntmps137
 go_upto_region 1 with fail
 rw [HW0.out]
 obtain ⟨p,_,_⟩:=HBX.out W0 (Below.refl _ _)
 have p0:=cell_of_row _ _ 0 _ _ _ p
 have p1:=cell_of_row _ _ 1 _ _ _ p
 have p2:=cell_of_row _ _ 2 _ _ _ p
 have p3:=cell_of_row _ _ 3 _ _ _ p
 have p4:=cell_of_row _ _ 4 _ _ _ p
 have p5:=cell_of_row _ _ 5 _ _ _ p
 clear p
 ·have HR:=Ld (show R = 32 :: bigB (keyU xf) 8 by rw [HP.out];exact congrArg (fun n => 32 :: bigB n 8) (keyF_nat HX.out.hf))
  have HKL:=Ld (keyU_lt HX.out.hf)
  have HXF:=Ld HX.out.hf
  simp only [VI.f] at HXF HKL
  clear HP
  go_wp2_with (first
   | (go_at_call 151;go_must (refine (sorted_c xf HXF.out _).mono ?_;rintro e w1 ⟨rfl,rfl⟩))
   | (go_at_call 150;go_must (refine (refWhole_c (keyU xf) 8 _ HKL.out (by decide)).mono ?_;rintro e w1 ⟨rfl,hb⟩;have HB1:=Ld hb;clear hb)))
  go_ret
  exact ⟨ret_eq (by rw [HR.out];exact congrArg Value.string (bytes_app [32] _)),HB0.out.trans (HB1.out.mono (by rw [HS0.out];omega))⟩
theorem oneK5_c [Inhabited Thr] (s : Nat) (IH : AllIH s) (x : VI) (w : World) (hs : SizeOf.sizeOf x.l ≤ s) (hX : RdV w x) (hok : okI x.data = true) (hz : sizeI x.data ≤ 4096) (hk : x.k = 5) :
 Calls Tryz.prog 137 #[x.val] w fun e w' => e = .returned (.string ⟨(packI x.data).toArray⟩) ∧ Below w.heap.size w w':=by
 have HX:=Ld hX
 have HIH:=Ld IH
 have HSX:=Ld hs
 have HP:=Ld (packI_eq x)
 have HZ:=Ld hz
 have HOK:=Ld hok
 clear hX hs hok hz IH
 rcases x with ⟨xk,xb,xn,xf,xt,xA,xc,xl⟩
 simp only [VI.val,VI.k,VI.b,VI.n,VI.f,VI.t,VI.A,VI.c,VI.l] at *
 subst hk
 obtain ⟨R,hR⟩ : ∃ R,packI (VI.mk 5 xb xn xf xt xA xc xl).data = R:=⟨_,rfl⟩
 rw [hR] at HP ⊢
 clear hR
 obtain ⟨W0,hW0⟩ : ∃ W0,w.alloc (.cells #[.int .u8 5,.bool xb,.int .i64 xn,.float .f64 xf,.string xt,.slice xA xl.length xc] 54) = W0:=⟨_,rfl⟩
 have HW0:=Ld hW0
 have HBX:=Ld (fun W (h : Below (w.heap.size + 1) W0 W) => box_i (hW0 ▸ h))
 have HS0:=Ld (show W0.heap.size = w.heap.size + 1 by rw [← hW0];simp)
 have HB0:=Ld (show Below w.heap.size w W0 by rw [← hW0];exact (Below.refl _ _).alloc (Nat.le_refl _) _)
 clear hW0
 go_enter Tryz.func137,Tryz.ntmps137
 go_upto_region 1 with fail
 rw [HW0.out]
 obtain ⟨p,_,_⟩:=HBX.out W0 (Below.refl _ _)
 have p0:=cell_of_row _ _ 0 _ _ _ p
 have p1:=cell_of_row _ _ 1 _ _ _ p
 have p2:=cell_of_row _ _ 2 _ _ _ p
 have p3:=cell_of_row _ _ 3 _ _ _ p
 have p4:=cell_of_row _ _ 4 _ _ _ p
 have p5:=cell_of_row _ _ 5 _ _ _ p
 clear p
 ·have HR:=Ld (show R = 36 :: (esc xt.data.toList ++ [0,1]) by rw [HP.out];rfl)
  have HTL:=Ld (show xt.data.toList.length = xt.size by rw [Array.length_toList];rfl)
  have HEL:=Ld (show ∀ k,k ≤ xt.size → (esc (xt.data.toList.take k)).length ≤ 8192 by
   intro k hk
   have h1:=HZ.out
   rw [sizeI_eq] at h1
   simp only [VI.k,VI.t,lenN] at h1
   have h2:=count_take_le xt k
   have h3:=esc_len (xt.data.toList.take k)
   have h4:=HTL.out
   rw [List.length_take] at h3
   simp at h1
   omega)
  have hxt : xt.size ≤ 140737488355328:=HX.out.ht
  have HFIN:=Ld (fun (W : World) (h : Below (w.heap.size + 1) W0 W) => (HBX.out W h).2.2)
  clear HP
  go_wp2
  go_loopw [4,5] (fun b i wr => ∃ (k : Nat),k ≤ xt.size ∧ i = .int .i64 k ∧ Hid (OwnB wr (w.heap.size + 1) b (36 :: esc (xt.data.toList.take k))) ∧ Hid (Below (w.heap.size + 1) W0 wr)) (fun _ i _ => xt.size - (intOf i).toNat)
  case atStart =>
   refine ⟨0,Nat.zero_le _,rfl,Ld ?_,Ld ?_⟩
   ·rw [List.take_zero];exact OwnB.laid W0 [36] (by simp) rfl rfl (Nat.le_of_eq HS0.out.symm)
   ·exact (Below.refl _ _).alloc (Nat.le_of_eq HS0.out.symm) _
  case round =>
   obtain ⟨k,hk,rfl,hO,hB⟩:=hrel
   obtain ⟨p,hsz,_⟩:=HBX.out _ hB.out
   have q4:=cell_of_row _ _ 4 _ _ _ p
   have HSZ:=Ld (show w.heap.size + 1 ≤ wr.heap.size from hsz)
   clear p hsz p0 p1 p2 p3 p4 p5
   by_cases hlt : k < xt.size
   ·have HET:=Ld (esc_take xt k hlt)
    have HL1:=Ld (HEL.out k (by omega))
    obtain ⟨E,hE⟩ : ∃ E,esc (xt.data.toList.take k) = E:=⟨_,rfl⟩
    rw [hE] at hO HET HL1
    clear hE
    have HV:=Ld (show #[Value.int .u8 (xt[k].toNat : Int)] = (bts [xt[k]]).toArray from rfl)
    by_cases h0 : xt[k] = 0
    ·have e1 : ((xt[k].toNat : Int) == 0) = true:=by rw [h0];rfl
     rw [if_pos h0] at HET
     have HH0:=Ld h0
     clear h0
     go_wp2_with (first
      | (at_builtin;refine wpList_put rfl (.tmp 64) (.tmp 69) rfl (AppEnd.refl hO.out) rfl _ HV.out rfl rfl rfl (by simp) (by have:=HL1.out;simp only [List.length_cons];omega) HSZ.out ?_;intro v2 w2 hA2;have HB2:=Ld (hB.out.trans (hA2.below HSZ.out hO.out.ge));have HA2:=Ld hA2;clear hA2 q4;obtain ⟨p,hsz,_⟩:=HBX.out _ HB2.out;have q4:=cell_of_row _ _ 4 _ _ _ p;have HSZ2:=Ld (show w.heap.size + 1 ≤ w2.heap.size from hsz);clear p hsz)
      | (at_builtin;refine wpList_put rfl (.tmp 76) (.tmp 77) rfl (AppEnd.refl HA2.out.own) rfl _ (show _ = (bts [255]).toArray from rfl) rfl rfl rfl (by simp) (by have:=HL1.out;simp only [List.length_append,List.length_cons,List.length_nil];omega) HSZ2.out ?_;intro v3 w3 hA3;have HB3:=Ld (HB2.out.trans (hA3.below HSZ2.out HA2.out.own.ge));have HA3:=Ld hA3;clear hA3))
     refine ⟨⟨k + 1,by omega,by go_num,Ld ?_,HB3⟩,by simp [intOf];omega⟩
     rw [HET.out]
     have:=HA3.out.own
     rw [HH0.out] at this
     simpa using this
    ·have e1 : ((xt[k].toNat : Int) == 0) = false:=by
       rw [beq_eq_false_iff_ne];intro h;exact h0 (UInt8.toNat_inj.1 (by rw [show (0 : UInt8).toNat = 0 from rfl];omega))
     rw [if_neg h0] at HET
     clear h0
     go_wp2_with (at_builtin;refine wpList_put rfl (.tmp 64) (.tmp 69) rfl (AppEnd.refl hO.out) rfl _ HV.out rfl rfl rfl (by simp) (by have:=HL1.out;simp only [List.length_cons];omega) HSZ.out ?_;intro v2 w2 hA2;have HB2:=Ld (hB.out.trans (hA2.below HSZ.out hO.out.ge));have HA2:=Ld hA2;clear hA2 q4;obtain ⟨p,hsz,_⟩:=HBX.out _ HB2.out;have q4:=cell_of_row _ _ 4 _ _ _ p;clear p hsz)
     refine ⟨⟨k + 1,by omega,by go_num,Ld ?_,HB2⟩,by simp [intOf];omega⟩
     rw [HET.out]
     exact HA2.out.own
   ·have HEQ:=Ld (show xt.data.toList.take k = xt.data.toList from List.take_of_length_le (by have:=HTL.out;omega))
    have HL1:=Ld (HEL.out k hk)
    rw [HEQ.out] at hO HL1
    obtain ⟨E,hE⟩ : ∃ E,esc xt.data.toList = E:=⟨_,rfl⟩
    rw [hE] at hO HL1 HR
    clear hE
    go_wp2_with (at_builtin;refine wpList_put rfl (.tmp 79) (.tmp 80) rfl (AppEnd.refl hO.out) rfl _ (show _ = (bts [0,1]).toArray from rfl) rfl rfl rfl (by simp) (by have:=HL1.out;simp only [List.length_cons];omega) HSZ.out ?_;intro v2 w2 hA2;have HB2:=Ld (hB.out.trans (hA2.below HSZ.out hO.out.ge));have hcv:=run_back hA2.own;clear hA2 q4)
    go_ret
    exact ⟨ret_eq (by rw [HR.out];simp),HFIN.out _ HB2.out⟩
theorem oneK6_c [Inhabited Thr] (s : Nat) (IH : AllIH s) (x : VI) (w : World) (hs : SizeOf.sizeOf x.l ≤ s) (hX : RdV w x) (hok : okI x.data = true) (hz : sizeI x.data ≤ 4096) (hk : x.k = 6) :
 Calls Tryz.prog 137 #[x.val] w fun e w' => e = .returned (.string ⟨(packI x.data).toArray⟩) ∧ Below w.heap.size w w':=by
 have HX:=Ld hX
 have HIH:=Ld IH
 have HSX:=Ld hs
 have HP:=Ld (packI_eq x)
 have HZ:=Ld hz
 have HOK:=Ld hok
 clear hX hs hok hz IH
 rcases x with ⟨xk,xb,xn,xf,xt,xA,xc,xl⟩
 simp only [VI.val,VI.k,VI.b,VI.n,VI.f,VI.t,VI.A,VI.c,VI.l] at *
 subst hk
 obtain ⟨R,hR⟩ : ∃ R,packI (VI.mk 6 xb xn xf xt xA xc xl).data = R:=⟨_,rfl⟩
 rw [hR] at HP ⊢
 clear hR
 obtain ⟨W0,hW0⟩ : ∃ W0,w.alloc (.cells #[.int .u8 6,.bool xb,.int .i64 xn,.float .f64 xf,.string xt,.slice xA xl.length xc] 54) = W0:=⟨_,rfl⟩
 have HW0:=Ld hW0
 have HBX:=Ld (fun W (h : Below (w.heap.size + 1) W0 W) => box_i (hW0 ▸ h))
 have HS0:=Ld (show W0.heap.size = w.heap.size + 1 by rw [← hW0];simp)
 have HB0:=Ld (show Below w.heap.size w W0 by rw [← hW0];exact (Below.refl _ _).alloc (Nat.le_refl _) _)
 clear hW0
 go_enter Tryz.func137,Tryz.ntmps137
 go_upto_region 1 with fail
 rw [HW0.out]
 obtain ⟨p,_,_⟩:=HBX.out W0 (Below.refl _ _)
 have p0:=cell_of_row _ _ 0 _ _ _ p
 have p1:=cell_of_row _ _ 1 _ _ _ p
 have p2:=cell_of_row _ _ 2 _ _ _ p
 have p3:=cell_of_row _ _ 3 _ _ _ p
 have p4:=cell_of_row _ _ 4 _ _ _ p
 have p5:=cell_of_row _ _ 5 _ _ _ p
 clear p
 ·have HR:=Ld (show R = 40 :: (packL (VI.dataL xl) ++ [0]) by rw [HP.out];rfl)
  have HXL:=Ld HX.out.list
  simp only [VI.A,VI.c,VI.l] at HXL
  have HOKL:=Ld (show okL (VI.dataL xl) = true by have:=HOK.out;rw [okI_eq,Bool.and_eq_true] at this;exact this.2)
  have HZL:=Ld (show sizeL (VI.dataL xl) ≤ 4096 by have:=HZ.out;rw [sizeI_eq] at this;simp only [VI.k,VI.l,if_true] at this;omega)
  have hpl : (packL (VI.dataL xl)).length ≤ 4096:=by rw [pack_len _ xl (Nat.le_refl _) HOKL.out];exact HZL.out
  have hov1 : ¬ 9223372036854775807 < 1 + (packL (VI.dataL xl)).length:=by omega
  have hov2 : ¬ 9223372036854775807 < 1 + (packL (VI.dataL xl)).length + 1:=by omega
  clear HP hpl
  go_wp2_with (go_at_call 119;go_must (refine (HIH.out xl xA xc _ HSX.out (HXL.out.below HB0.out) HOKL.out HZL.out).mono ?_;rintro e w1 ⟨rfl,hb⟩;have HB1:=Ld hb;clear hb))
  go_ret
  exact ⟨ret_eq (by rw [HR.out];refine congrArg Value.string ((congrArg (· ++ _) (bytes_app [40] _)).trans (bytes_app _ [0]))),HB0.out.trans (HB1.out.mono (by rw [HS0.out];omega))⟩
theorem one_c [Inhabited Thr] (s : Nat) (IH : AllIH s) (x : VI) (w : World) (hs : SizeOf.sizeOf x.l ≤ s) (hX : RdV w x) (hok : okI x.data = true) (hz : sizeI x.data ≤ 4096) :
 Calls Tryz.prog 137 #[x.val] w fun e w' => e = .returned (.string ⟨(packI x.data).toArray⟩) ∧ Below w.heap.size w w':=by
 have hkk : 1 ≤ x.k ∧ x.k ≤ 6:=by
  have h:=hok
  rw [okI_eq,Bool.and_eq_true] at h
  have:=h.1
  simp only [mayN,Bool.and_eq_true,decide_eq_true_eq] at this
  exact this.1
 have hk6 : x.k = 1 ∨ x.k = 2 ∨ x.k = 3 ∨ x.k = 4 ∨ x.k = 5 ∨ x.k = 6:=by omega
 rcases hk6 with h | h | h | h | h | h
 ·exact oneK1_c s IH x w hs hX hok hz h
 ·exact oneK2_c s IH x w hs hX hok hz h
 ·exact oneK3_c s IH x w hs hX hok hz h
 ·exact oneK4_c s IH x w hs hX hok hz h
 ·exact oneK5_c s IH x w hs hX hok hz h
 ·exact oneK6_c s IH x w hs hX hok hz h
theorem refAll_c [Inhabited Thr] : ∀ s,AllIH s:=by
 intro s
 induction s with
 | zero => intro l A c w hs;exfalso;cases l <;> simp at hs
 | succ s ih =>
 intro l A c w hs hL hok hz
 have HIH:=Ld ih
 have HS:=Ld hs
 have HL:=Ld hL
 have HOK:=Ld hok
 have HZ:=Ld hz
 have hlb:=hL.hb
 clear ih hs hL hok hz
 obtain ⟨P,hP⟩ : ∃ P,packL (VI.dataL l) = P:=⟨_,rfl⟩
 have HP:=Ld hP
 rw [hP]
 clear hP
 go_enter Tryz.func119,Tryz.ntmps119
 go_wp2
 go_loopw [4,3] (fun i v wr => ∃ (k : Nat) (bs : List UInt8),k ≤ l.length ∧ i = .int .i64 k ∧ v = .string ⟨bs.toArray⟩ ∧ Hid (packL ((VI.dataL l).take k) = bs) ∧ Hid (Below w.heap.size w wr)) (fun i _ _ => l.length - (intOf i).toNat)
 case atStart => exact ⟨0,[],Nat.zero_le _,rfl,rfl,Ld (by rw [List.take_zero,packL_nil]),Ld (Below.refl _ _)⟩
 case round =>
  obtain ⟨k,bs,hk,rfl,rfl,hbs,hB⟩:=hrel
  by_cases hlt : k < l.length
  ·have HLr:=Ld (HL.out.below hB.out)
   obtain ⟨ab,ao,rfl⟩ : ∃ ab ao,A = some ⟨ab,ao,none⟩:=by obtain ⟨b,o,e,_⟩:=HLr.out.rd.2 (by omega);exact ⟨b,o,e⟩
   obtain ⟨p0,p1,p2,p3,p4,p5⟩:=item_at HLr.out.rd hlt
   have HX:=Ld (HLr.out.hx _ (List.getElem_mem hlt))
   have HSX:=Ld (show SizeOf.sizeOf l[k].l ≤ s by have h1:=sz_lt (List.getElem_mem hlt);have h2:=HS.out;have h3:=sz_list l[k];omega)
   have HT:=Ld (packL_take l k hlt)
   have HOKX:=Ld (okL_get l k hlt HOK.out)
   have HZX:=Ld (show sizeI l[k].data ≤ 4096 by have:=sizeL_take_le' l k hlt;have:=HZ.out;omega)
   obtain ⟨y,hy⟩ : ∃ y,l[k] = y:=⟨_,rfl⟩
   simp only [hy] at p0 p1 p2 p3 p4 p5 HX HSX HT HOKX HZX
   clear hy
   rw [hbs.out] at HT
   have hov0 : (packL ((VI.dataL l).take (k + 1))).length ≤ 4096:=by rw [pack_len_take l (k + 1) HOK.out];have:=sizeL_take_le (VI.dataL l) (k + 1);have:=HZ.out;omega
   have HC:=Ld (fun W => one_c s HIH.out y W HSX.out)
   rcases y with ⟨yk,yb,yn,yf,yt,yA,yc,yl⟩
   simp only [VI.val,VI.k,VI.b,VI.n,VI.f,VI.t,VI.A,VI.c,VI.l] at p0 p1 p2 p3 p4 p5 HC
   obtain ⟨R,hR⟩ : ∃ R,packI (VI.mk yk yb yn yf yt yA yc yl).data = R:=⟨_,rfl⟩
   simp only [hR] at HC HT
   clear hR
   rw [HT.out,List.length_append] at hov0
   have hov : ¬ 9223372036854775807 < bs.length + R.length:=by omega
   clear hov0
   go_wp2_with (go_at_call 137;go_must (refine (HC.out _ HX.out HOKX.out HZX.out).mono ?_;rintro e w1 ⟨rfl,hb⟩;have HB1:=Ld (hB.out.trans (hb.mono hB.out.size));clear hb))
   exact ⟨⟨k + 1,bs ++ R,by omega,by go_num,congrArg Value.string (bytes_app _ _),Ld HT.out,HB1⟩,by simp [intOf];omega⟩
  ·have e:=List.take_of_length_le (l:=VI.dataL l) (i:=k) (by rw [dataL_eq,List.length_map];omega)
   rw [e,HP.out] at hbs
   go_wp2
   go_ret
   exact ⟨ret_eq (by rw [hbs.out];rfl),hB.out⟩
end
section
open Go.RowKit
set_option maxHeartbeats 2000000
set_option maxRecDepth 100000
theorem refPack_c [Inhabited Thr] (A : Option Addr) (c : Nat) (l : List VI) (w : World) (hR : RdI w A c l) :
 Calls Tryz.prog 87 #[.slice A l.length c] w fun e w' => e = .returned (packE (VI.dataL l)) ∧ Below w.heap.size w w':=by
 have HR:=Ld hR
 clear hR
 go_enter Tryz.func87,Tryz.ntmps87
 go_wp2_with (first
  | (go_at_call 64;go_must (refine (refCheck_c A c l _ HR.out).mono ?_;rintro e w1 ⟨rfl,hb1⟩;have HB1:=Ld hb1;clear hb1))
  | (go_at_call 119;go_must (have H0:=Ld (chk_ok l (int_zero ‹((chkL (VI.dataL l) : Int) != 0) = false›));refine (refAll_c _ l A c w1 (Nat.le_refl _) (HR.out.below HB1.out) H0.out.1 H0.out.2.1).mono ?_;rintro e w2 ⟨rfl,hb2⟩;have HB2:=Ld (HB1.out.trans (hb2.mono HB1.out.size));clear hb2)))
 ·rename_i hne
  have hne : chkL (VI.dataL l) ≠ 0:=fun h => by rw [h] at hne;simp at hne
  go_ret2
  exact ⟨by rw [packE,if_neg hne];rfl,HB1.out⟩
 ·have h0:=int_zero ‹((chkL (VI.dataL l) : Int) != 0) = false›
  go_ret2
  exact ⟨by rw [packE,if_pos h0];rfl,HB2.out⟩
theorem hiB_rep (n : Nat) : hiB (List.replicate n 255) = []:=by
 unfold hiB
 have e : (List.replicate n (255 : UInt8)).reverse.dropWhile (· == 255) = []:=by
  rw [List.reverse_replicate]
  induction n with
  | zero => rfl
  | succ n ih => rw [List.replicate_succ];simp [ih]
 rw [e]
theorem bytes_ext (P : List UInt8) (m : Nat) : (⟨P.toArray⟩ : ByteArray).extract 0 m = ⟨(P.take m).toArray⟩:=by
 apply ByteArray.ext
 simp
theorem refUnder_c [Inhabited Thr] (A : Option Addr) (c : Nat) (l : List VI) (w : World) (hR : RdI w A c l) :
 Calls Tryz.prog 54 #[.slice A l.length c] w fun e w' => e = .returned (underE (VI.dataL l)) ∧ Below w.heap.size w w':=by
 have HR:=Ld hR
 clear hR
 go_enter Tryz.func54,Tryz.ntmps54
 by_cases h0 : chkL (VI.dataL l) = 0
 ·have HPE:=Ld (show packE (VI.dataL l) = .tuple #[.string ⟨(packL (VI.dataL l)).toArray⟩,.int .i64 0] by rw [packE,if_pos h0])
  have HUE:=Ld (show underE (VI.dataL l) = .tuple #[.string ⟨(packL (VI.dataL l)).toArray⟩,.string ⟨(hiB (packL (VI.dataL l))).toArray⟩,.int .i64 0] by rw [underE,if_pos h0])
  have HPL:=Ld (show (packL (VI.dataL l)).length ≤ 4096 by rw [pack_len _ l (Nat.le_refl _) (chk_ok l h0).1];exact (chk_ok l h0).2.1)
  rw [HUE.out]
  obtain ⟨P,hP⟩ : ∃ P,packL (VI.dataL l) = P:=⟨_,rfl⟩
  rw [hP] at HPE HPL ⊢
  clear hP HUE h0
  have HSZ:=Ld (show (⟨P.toArray⟩ : ByteArray).size = P.length by simp [ByteArray.size])
  go_wp2_with (go_at_call 87;go_must (refine (refPack_c A c l _ HR.out).mono ?_;rintro e w1 ⟨rfl,hb1⟩;rw [HPE.out];have HB1:=Ld hb1;clear hb1))
  go_loopw [7] (fun i wr => ∃ n : Nat,n ≤ P.length ∧ i = .int .i64 n ∧ Hid (P = P.take n ++ List.replicate (P.length - n) 255) ∧ wr = w1) (fun i _ => (intOf i).toNat)
  case atStart => exact ⟨P.length,Nat.le_refl _,by rw [← HSZ.out],Ld (by simp),rfl⟩
  case round =>
   obtain ⟨n,hn,rfl,hrep,hwr⟩:=hrel
   subst wr
   cases n with
   | zero =>
     have HH:=Ld (show hiB P = [] by have:=hrep.out;rw [List.take_zero,List.nil_append] at this;rw [this];exact hiB_rep _)
     go_wp2
     go_ret3
     exact ⟨ret_eq (by rw [HH.out];rfl),HB1.out⟩
   | succ m =>
     have hm : m < P.length:=hn
     have hms : m < (⟨P.toArray⟩ : ByteArray).size:=by rw [HSZ.out];exact hm
     have hml : m ≤ 4096:=by have:=HPL.out;omega
     have hwm : IntKind.i64.wrap (m : Int) = m:=IntWalk.i64_in _ (by omega)
     obtain ⟨c0,hc0⟩ : ∃ c,P[m] = c:=⟨_,rfl⟩
     have hci : ∀ h : m < (⟨P.toArray⟩ : ByteArray).size,(⟨P.toArray⟩ : ByteArray)[m]'h = c0:=fun h => hc0
     have HTG:=Ld (List.take_append_getElem hm)
     rw [hc0] at HTG
     clear hc0
     by_cases h255 : c0 = 255
     ·have e1 : ((c0.toNat : Int) == 255) = true:=by rw [h255];rfl
      have HN:=Ld (show P = P.take m ++ List.replicate (P.length - m) 255 by
       have:=hrep.out
       rw [← HTG.out,h255,List.append_assoc] at this
       refine this.trans ?_
       rw [show P.length - m = (P.length - (m + 1)) + 1 by omega,List.replicate_succ]
       rfl)
      clear h255
      go_wp2
      exact ⟨⟨m,by omega,rfl,HN,by trivial⟩,by simp [intOf]⟩
     ·have e1 : ((c0.toNat : Int) == 255) = false:=by
        rw [beq_eq_false_iff_ne];intro h;exact h255 (UInt8.toNat_inj.1 (by rw [show (255 : UInt8).toNat = 255 from rfl];omega))
      have HH:=Ld (show hiB P = P.take m ++ [c0 + 1] by
       have:=hrep.out
       rw [← HTG.out,List.append_assoc] at this
       conv => lhs;rw [this]
       exact hiB_app _ _ _ h255)
      have hvc : (((c0.toNat : Int) + 1) % 256) = ((c0 + 1).toNat : Int):=by rw [UInt8.toNat_add];simp
      obtain ⟨c1,hc1⟩ : ∃ c,c0 + 1 = c:=⟨_,rfl⟩
      rw [hc1] at HH hvc
      have HVC:=Ld hvc
      have HVW:=Ld (show IntKind.u8.wrap ((c0.toNat : Int) + 1) = (c1.toNat : Int) by rw [← hvc];simp [IntKind.wrap,IntKind.bits,IntKind.signed])
      clear h255 hvc hc1
      have hsl:=fun wx : World => run_slice_string_h (P:=Tryz.prog) wx 9 ⟨P.toArray⟩ Tryz.underlying9 .i64 (m : Int) (by omega) (by rw [HSZ.out];omega)
      simp only [Int.toNat_natCast] at hsl
      have hmin : min m P.length = m:=by omega
      have hsz : ((⟨P.toArray⟩ : ByteArray).extract 0 m).size = m:=by rw [ByteArray.size_extract,HSZ.out];omega
      have hov : ¬ 9223372036854775807 < m + 1:=by omega
      go_upto_region 9 with fail
      refine wp_region_sched (S:=fun W => Below w1.heap.size w1 W) [(0,true),(1,true),(2,true),(3,true),(4,true),(5,true),(6,true),(7,true),(8,true),(9,true),(13,true),(10,false),(11,false),(12,true),(14,true),(15,true)] (by kernel_rfl) (by kernel_rfl) (by kernel_rfl) (fun _ _ d _ _ h => by cases d <;> exact h) (Below.refl _ _).drew ?_
      repeat (apply sched_take;(exact rfl);rfl;(intro W hW;go_simp;(try with_reducible rfl));simp only [Act.put,List.setIfInBounds_toArray,List.set_cons_zero,List.set_cons_succ])
      try rw [HVW.out]
      try rw [HVC.out]
      have ha:=((Below.refl w1.heap.size w1).alloc (Nat.le_refl _) (.cells #[.int .u8 c1.toNat] 5)).drew
      apply sched_run;(exact rfl);rfl;intro K hK;go_simp
      refine hK.out _ _ ha (fun _ => ?_)
      clear hK K
      try simp only [Act.put,List.setIfInBounds_toArray,List.set_cons_zero,List.set_cons_succ]
      apply sched_run;(exact rfl);rfl;intro K hK
      have hcv:=conv_new (w:=w1) (g:=w1.heap.size) (c:=c1) rfl (Below.refl _ _).drew
      go_simp
      refine hK.out _ _ ha (fun _ => ?_)
      clear hK K hcv
      try simp only [Act.put,List.setIfInBounds_toArray,List.set_cons_zero,List.set_cons_succ]
      repeat (apply sched_take;(exact rfl);rfl;(intro W hW;go_simp;(try with_reducible rfl));simp only [Act.put,List.setIfInBounds_toArray,List.set_cons_zero,List.set_cons_succ])
      refine sched_done ?_
      go_wp2
      go_ret3
      exact ⟨ret_eq (by rw [HH.out];exact congrArg (fun z => Value.tuple #[.string ⟨P.toArray⟩,.string z,.int .i64 0]) ((congrArg (· ++ _) (bytes_ext P m)).trans (bytes_app _ [c1]))),HB1.out.trans (ha.mono HB1.out.size)⟩
 ·have HPE:=Ld (show packE (VI.dataL l) = .tuple #[.string ⟨#[]⟩,.int .i64 (chkL (VI.dataL l))] by rw [packE,if_neg h0])
  go_wp2_with (go_at_call 87;go_must (refine (refPack_c A c l _ HR.out).mono ?_;rintro e w1 ⟨rfl,hb1⟩;rw [HPE.out];have HB1:=Ld hb1;clear hb1))
  ·go_ret3
   exact ⟨by rw [underE,if_neg h0];rfl,HB1.out⟩
  all_goals (exfalso;exact h0 (int_zero ‹((chkL (VI.dataL l) : Int) != 0) = false›))
theorem one_all {P : VI → Prop} {x : VI} (h : P x) : ∀ y ∈ [x],P y:=by
 intro y hy
 obtain rfl : y = x:=by simpa using hy
 exact h
theorem refTab_c (A : Option Addr) (c : Nat) (t : TabD) (w : World) (hR : RdT w A c t) (hn : t.cols.length ≤ 16) :
 Calls Tryz.prog 63 #[vT t A c] w fun e w' => e = .returned (.string ⟨(textB t).toArray⟩) ∧ Below w.heap.size w w':=by
 haveI : Inhabited Thr:=⟨⟨0⟩⟩
 have HR:=Ld hR
 have hkk:=hR.hk
 have hlen:=hR.hb
 rcases t with ⟨tn,cols,keys⟩
 simp only at hkk hlen hn
 obtain ⟨W0,hW0⟩ : ∃ W0,w.alloc (.cells #[.string tn,.slice A cols.length c,.int .i64 keys] 27) = W0:=⟨_,rfl⟩
 have HW0:=Ld hW0
 have HBX:=Ld (fun W (h : Below (w.heap.size + 1) W0 W) => box_t (hW0 ▸ h))
 have HS0:=Ld (show W0.heap.size = w.heap.size + 1 by rw [← hW0];simp)
 clear hR hW0
 go_enter Tryz.func63,Tryz.ntmps63
 go_upto_region 1 with fail
 rw [HW0.out]
 obtain ⟨⟨t0,t1,t2⟩,_,_⟩:=HBX.out W0 (Below.refl _ _)
 go_wp2_with (go_at_call 97;go_must (refine (refInt_c keys _).mono ?_;rintro e w1 ⟨rfl,hb1⟩;simp only [VI.val,VI.k,VI.b,VI.n,VI.f,VI.t,VI.A,VI.c,VI.l,List.length_nil];have HB1:=Ld (hb1.mono (show w.heap.size + 1 ≤ _ by rw [HS0.out];omega));clear hb1 t0 t1 t2))
 go_loopw [4,3] (fun i v wr => ∃ k : Nat,k ≤ cols.length ∧ i = .int .i64 k ∧ Hid (Below (w.heap.size + 1) W0 wr) ∧ Hid (OwnI wr (w.heap.size + 1) v (vInt keys :: (cols.take k).flatMap colRow))) (fun i _ _ => cols.length - (intOf i).toNat)
 case atStart =>
  have h1:=HB1.out
  have h2 : w.heap.size + 1 ≤ w1.heap.size:=by rw [← HS0.out];exact h1.size
  exact ⟨0,Nat.zero_le _,rfl,Ld (h1.alloc h2 _),Ld (OwnI.laid w1 _ [vInt keys] rfl (by simp) rfl rfl h2 (by intro y hy;obtain rfl : y = vInt keys:=(by simpa using hy);exact RdV.plain _ _ _ _ _ _ (by decide) (by decide) (by decide) hkk))⟩
 case round =>
  obtain ⟨k,hk,rfl,hB,hO⟩:=hrel
  obtain ⟨⟨t0,t1,t2⟩,z0,z1⟩:=HBX.out _ hB.out
  have HRr:=Ld (HR.out.below z1)
  have HZ:=Ld (show w.heap.size + 1 ≤ wr.heap.size from z0)
  have HW1:=Ld z1
  clear z0 z1
  by_cases hlt : k < cols.length
  ·obtain ⟨ab,ao,rfl⟩ : ∃ ab ao,A = some ⟨ab,ao,none⟩:=by obtain ⟨b,o,e,_⟩:=HRr.out.rd.2 (show 0 < cols.length by omega);exact ⟨b,o,e⟩
   obtain ⟨p0,p1,p2⟩:=col_at HRr.out.rd hlt
   have hx:=HR.out.hx _ (List.getElem_mem hlt)
   have HTK:=Ld (tabRow_take ⟨tn,cols,keys⟩ k hlt)
   have HLN:=Ld (show (vInt keys :: (cols.take k).flatMap colRow).length ≤ 49 by rw [List.length_cons,colRow_len,List.length_take];omega)
   simp only at p0 p1 p2 hx HTK
   obtain ⟨⟨nm,kd,nl⟩,hcx⟩ : ∃ x,cols[k] = x:=⟨_,rfl⟩
   rw [hcx] at p0 p1 p2 hx HTK
   clear hcx
   simp only at p0 p1 p2 hx
   obtain ⟨L,hL⟩ : ∃ L,vInt keys :: (cols.take k).flatMap colRow = L:=⟨_,rfl⟩
   rw [hL] at hO HTK HLN
   clear hL
   have HX:=Ld hx
   have HKW:=Ld (show IntKind.i64.wrap kd = kd from IntWalk.i64_in kd (by have:=HX.out;omega))
   have HKV:=Ld (show wrap64 kd = kd by have:=HX.out;unfold wrap64;omega)
   clear hx
   go_upto_region 6 with fail
   have hc0 : (wr.alloc (.cells #[.string nm,.int .u8 kd,.bool nl] 58)).heap[wr.heap.size]? = some (.cells #[.string nm,.int .u8 kd,.bool nl] 58 (0,0)):=heap_alloc_new wr _
   have ha0:=(Below.refl wr.heap.size wr).alloc (Nat.le_refl _) (.cells #[.string nm,.int .u8 kd,.bool nl] 58)
   have HOa:=Ld (hO.out.below ha0)
   have HBa:=Ld (hB.out.trans (ha0.mono HZ.out))
   obtain ⟨V0,hV0⟩ : ∃ V0,wr.alloc (.cells #[.string nm,.int .u8 kd,.bool nl] 58) = V0:=⟨_,rfl⟩
   rw [hV0] at hc0 HOa HBa ⊢
   have HC0:=Ld hc0
   obtain ⟨c0,c1,c2⟩:=box3 hc0
   clear hV0 hc0 ha0 p0 p1 p2 t0 t1 t2
   go_wp2_with (first
    | (go_at_call 88;go_must (refine (refText_c nm _).mono ?_;rintro e w3 ⟨rfl,hb⟩;simp only [VI.val,VI.k,VI.b,VI.n,VI.f,VI.t,VI.A,VI.c,VI.l,List.length_nil];have HC3:=Ld ((hb.block _ (Array.getElem?_eq_some_iff.1 HC0.out).1).trans HC0.out);have hz : w.heap.size + 1 ≤ V0.heap.size:=Nat.le_trans HZ.out (Nat.le_of_lt (Array.getElem?_eq_some_iff.1 HC0.out).1);have HB3:=Ld (HBa.out.trans (hb.mono hz));have HO3:=Ld (HOa.out.below hb);clear hb hz c0 c1 c2))
    | (at_builtin;refine wpList_items (B:=w.heap.size + 1) (l:=L) (ys:=[vText nm]) rfl (.tmp 24) (.tmp 28) rfl (HO3.out.below ((Below.refl w3.heap.size w3).alloc (Nat.le_refl _) (.cells #[.int .u8 5,.bool false,.int .i64 0,.float .f64 0,.string nm,.slice none 0 0] 54))) rfl rfl (rd_items w3 _ [vText nm] rfl rfl rfl) rfl (one_all (RdV.plain _ _ _ _ _ _ HX.out.1 (by decide) (by decide) (by decide))) (one_all (BlkV.plain _ _ _ _ _ _)) (by have:=HLN.out;(try simp only [List.length_append,List.length_cons,List.length_nil]);omega) (by have:=(Array.getElem?_eq_some_iff.1 HC3.out).1;have:=HZ.out;(try simp);omega) ?_;intro v4 w4 hO2 hK2 _;have hba:=(Below.refl w3.heap.size w3).alloc (Nat.le_refl _) (.cells #[.int .u8 5,.bool false,.int .i64 0,.float .f64 0,.string nm,.slice none 0 0] 54);have hca:=(hba.block _ (Array.getElem?_eq_some_iff.1 HC3.out).1).trans HC3.out;have hlt:=(Array.getElem?_eq_some_iff.1 hca).1;have HC4:=Ld ((hK2.block _ hlt (own_ne_block (HO3.out.below hba).own hca (by decide))).trans hca);have hz : w.heap.size + 1 ≤ w3.heap.size:=Nat.le_trans HZ.out (Nat.le_of_lt (Array.getElem?_eq_some_iff.1 HC3.out).1);have HB4:=Ld ((HB3.out.trans (hba.mono hz)).trans (hK2.below (Nat.le_trans hz hba.size) (fun j hj e => by have:=(HO3.out.own.lt j e).1;omega)));have HO4:=Ld hO2;obtain ⟨c0,c1,c2⟩:=box3 HC4.out;clear hO2 hK2 hba hca hlt hz)
    | (go_at_call 97;go_must ((first | rw [HKW.out] | rw [HKV.out]);refine (refInt_c kd _).mono ?_;rintro e w5 ⟨rfl,hb⟩;simp only [VI.val,VI.k,VI.b,VI.n,VI.f,VI.t,VI.A,VI.c,VI.l,List.length_nil];have HC5:=Ld ((hb.block _ (Array.getElem?_eq_some_iff.1 HC4.out).1).trans HC4.out);have hz : w.heap.size + 1 ≤ w4.heap.size:=Nat.le_trans HZ.out (Nat.le_of_lt (Array.getElem?_eq_some_iff.1 HC4.out).1);have HB5:=Ld (HB4.out.trans (hb.mono hz));have HO5:=Ld (HO4.out.below hb);clear hb hz c0 c1 c2))
    | (at_builtin;refine wpList_items (B:=w.heap.size + 1) (l:=(L ++ [vText nm])) (ys:=[vInt kd]) rfl (.tmp 30) (.tmp 35) rfl (HO5.out.below ((Below.refl w5.heap.size w5).alloc (Nat.le_refl _) (.cells #[.int .u8 3,.bool false,.int .i64 kd,.float .f64 0,.string ⟨#[]⟩,.slice none 0 0] 54))) rfl rfl (rd_items w5 _ [vInt kd] rfl rfl rfl) rfl (one_all (RdV.plain _ _ _ _ _ _ (by decide) (by decide) (by decide) (by have:=HX.out;omega))) (one_all (BlkV.plain _ _ _ _ _ _)) (by have:=HLN.out;(try simp only [List.length_append,List.length_cons,List.length_nil]);omega) (by have:=(Array.getElem?_eq_some_iff.1 HC5.out).1;have:=HZ.out;(try simp);omega) ?_;intro v6 w6 hO2 hK2 _;have hba:=(Below.refl w5.heap.size w5).alloc (Nat.le_refl _) (.cells #[.int .u8 3,.bool false,.int .i64 kd,.float .f64 0,.string ⟨#[]⟩,.slice none 0 0] 54);have hca:=(hba.block _ (Array.getElem?_eq_some_iff.1 HC5.out).1).trans HC5.out;have hlt:=(Array.getElem?_eq_some_iff.1 hca).1;have HC6:=Ld ((hK2.block _ hlt (own_ne_block (HO5.out.below hba).own hca (by decide))).trans hca);have hz : w.heap.size + 1 ≤ w5.heap.size:=Nat.le_trans HZ.out (Nat.le_of_lt (Array.getElem?_eq_some_iff.1 HC5.out).1);have HB6:=Ld ((HB5.out.trans (hba.mono hz)).trans (hK2.below (Nat.le_trans hz hba.size) (fun j hj e => by have:=(HO5.out.own.lt j e).1;omega)));have HO6:=Ld hO2;obtain ⟨c0,c1,c2⟩:=box3 HC6.out;clear hO2 hK2 hba hca hlt hz)
    | (go_at_call 98;go_must (refine (refBool_c nl _).mono ?_;rintro e w7 ⟨rfl,hb⟩;simp only [VI.val,VI.k,VI.b,VI.n,VI.f,VI.t,VI.A,VI.c,VI.l,List.length_nil];have HC7:=Ld ((hb.block _ (Array.getElem?_eq_some_iff.1 HC6.out).1).trans HC6.out);have hz : w.heap.size + 1 ≤ w6.heap.size:=Nat.le_trans HZ.out (Nat.le_of_lt (Array.getElem?_eq_some_iff.1 HC6.out).1);have HB7:=Ld (HB6.out.trans (hb.mono hz));have HO7:=Ld (HO6.out.below hb);clear hb hz c0 c1 c2))
    | (at_builtin;refine wpList_items (B:=w.heap.size + 1) (l:=((L ++ [vText nm]) ++ [vInt kd])) (ys:=[vBool nl]) rfl (.tmp 37) (.tmp 41) rfl (HO7.out.below ((Below.refl w7.heap.size w7).alloc (Nat.le_refl _) (.cells #[.int .u8 2,.bool nl,.int .i64 0,.float .f64 0,.string ⟨#[]⟩,.slice none 0 0] 54))) rfl rfl (rd_items w7 _ [vBool nl] rfl rfl rfl) rfl (one_all (RdV.plain _ _ _ _ _ _ (by decide) (by decide) (by decide) (by decide))) (one_all (BlkV.plain _ _ _ _ _ _)) (by have:=HLN.out;(try simp only [List.length_append,List.length_cons,List.length_nil]);omega) (by have:=(Array.getElem?_eq_some_iff.1 HC7.out).1;have:=HZ.out;(try simp);omega) ?_;intro v8 w8 hO2 hK2 _;have hba:=(Below.refl w7.heap.size w7).alloc (Nat.le_refl _) (.cells #[.int .u8 2,.bool nl,.int .i64 0,.float .f64 0,.string ⟨#[]⟩,.slice none 0 0] 54);have hca:=(hba.block _ (Array.getElem?_eq_some_iff.1 HC7.out).1).trans HC7.out;have hlt:=(Array.getElem?_eq_some_iff.1 hca).1;have HC9:=Ld ((hK2.block _ hlt (own_ne_block (HO7.out.below hba).own hca (by decide))).trans hca);have hz : w.heap.size + 1 ≤ w7.heap.size:=Nat.le_trans HZ.out (Nat.le_of_lt (Array.getElem?_eq_some_iff.1 HC7.out).1);have HB9:=Ld ((HB7.out.trans (hba.mono hz)).trans (hK2.below (Nat.le_trans hz hba.size) (fun j hj e => by have:=(HO7.out.own.lt j e).1;omega)));have HO9:=Ld hO2;obtain ⟨c0,c1,c2⟩:=box3 HC9.out;clear hO2 hK2 hba hca hlt hz))
   refine ⟨⟨k + 1,by omega,by go_num,HB9,?_⟩,by simp [intOf];omega⟩
   rw [HTK.out]
   have:=HO9.out
   exact Ld (by simpa [colRow] using this)
  ·have hke : k = cols.length:=by omega
   subst hke
   have hrow : vInt keys :: (cols.take cols.length).flatMap colRow = tabRow ⟨tn,cols,keys⟩:=by rw [List.take_length];rfl
   rw [hrow] at hO
   obtain ⟨RA,rc,hv,hRI⟩:=hO.out.rdi (by rw [← hrow,List.length_cons,colRow_len,List.length_take];omega)
   subst hv
   have HRI:=Ld hRI
   clear hRI hrow
   by_cases hchk : chkL (VI.dataL (tabRow ⟨tn,cols,keys⟩)) = 0
   ·have HPE:=Ld (show packE (VI.dataL (tabRow ⟨tn,cols,keys⟩)) = .tuple #[.string ⟨(textB ⟨tn,cols,keys⟩).toArray⟩,.int .i64 0] by rw [packE,if_pos hchk,textB,if_pos hchk])
    clear hchk
    go_wp2_with (go_at_call 87;go_must (refine (refPack_c RA rc (tabRow ⟨tn,cols,keys⟩) _ HRI.out).mono ?_;rintro e w7 ⟨rfl,hb7⟩;rw [HPE.out];have HB7:=Ld hb7;clear hb7))
    go_ret
    exact ⟨rfl,HW1.out.trans (HB7.out.mono HW1.out.size)⟩
   ·have HPE:=Ld (show packE (VI.dataL (tabRow ⟨tn,cols,keys⟩)) = .tuple #[.string ⟨(textB ⟨tn,cols,keys⟩).toArray⟩,.int .i64 (chkL (VI.dataL (tabRow ⟨tn,cols,keys⟩)))] by rw [packE,if_neg hchk,textB,if_neg hchk])
    clear hchk
    go_wp2_with (go_at_call 87;go_must (refine (refPack_c RA rc (tabRow ⟨tn,cols,keys⟩) _ HRI.out).mono ?_;rintro e w7 ⟨rfl,hb7⟩;rw [HPE.out];have HB7:=Ld hb7;clear hb7))
    go_ret
    exact ⟨rfl,HW1.out.trans (HB7.out.mono HW1.out.size)⟩
theorem quo8 {pg wd : Int} (h : right pg wd = true) : IntKind.i64.wrap (Int.tdiv pg 8) = pg / 8:=by
 rcases (right_pg h).1 with rfl | rfl | rfl | rfl <;> rfl
theorem refCheck25_c (pg wd : Int) (A : Option Addr) (c : Nat) (t : TabD) (w : World) (hR : RdT w A c t) :
 Calls Tryz.prog 31 #[vF pg wd,vT t A c] w fun e w' => e = .returned (.int .i64 (chkT pg wd t)) ∧ Below w.heap.size w w':=by
 have HR:=Ld hR
 rcases t with ⟨tn,cols,keys⟩
 obtain ⟨W0,hW0⟩ : ∃ W0,(w.alloc (.cells #[.int .i64 pg,.int .i64 wd] 24)).alloc (.cells #[.string tn,.slice A cols.length c,.int .i64 keys] 27) = W0:=⟨_,rfl⟩
 have HW0:=Ld hW0
 have HBX:=Ld (fun W (h : Below (w.heap.size + 2) W0 W) => boxes_ft (hW0 ▸ h))
 have HS0:=Ld (show W0.heap.size = w.heap.size + 2 by rw [← hW0];simp)
 clear hR hW0
 by_cases h1 : right pg wd = true
 ·have HPG:=Ld (right_pg h1)
  have HQU:=Ld (quo8 h1)
  by_cases h2 : shapedB ⟨tn,cols,keys⟩ = true
  ·have HSL:=Ld (shaped_len h2)
   have HCT:=Ld (show chkT pg wd ⟨tn,cols,keys⟩ = if pg / 8 < (textB ⟨tn,cols,keys⟩).length then 4 else 0 by rw [chkT,if_neg (by rw [h1];decide),if_neg (by rw [h2];decide)])
   have H1:=Ld h1
   have H2:=Ld h2
   clear h1 h2
   go_enter Tryz.func31,Tryz.ntmps31
   go_upto_region 1 with fail
   rw [HW0.out]
   obtain ⟨⟨q0,q1⟩,⟨q2,q3,q4⟩,q5,_⟩:=HBX.out W0 (Below.refl _ _)
   go_upto_region 5 with (first
    | (go_at_call 61;go_must (refine (refRight_c pg wd _).mono ?_;rintro e w1 ⟨rfl,hb1⟩;rw [H1.out];have HB1:=Ld (hb1.mono (show w.heap.size + 2 ≤ _ by rw [HS0.out];omega));clear q0 q1 q2 q3 q4 q5;obtain ⟨⟨q0,q1⟩,⟨q2,q3,q4⟩,q5,q6⟩:=HBX.out _ HB1.out;have HW1:=Ld q6;clear hb1 q6))
    | (go_at_call 62;go_must (refine (may25_c A c ⟨tn,cols,keys⟩ _ (HR.out.below HW1.out)).mono ?_;rintro e w2 ⟨rfl,hb2⟩;rw [H2.out];have HB2:=Ld (HB1.out.trans (hb2.mono (show w.heap.size + 2 ≤ _ by omega)));clear q0 q1 q2 q3 q4 q5;obtain ⟨⟨q0,q1⟩,⟨q2,q3,q4⟩,q5,q6⟩:=HBX.out _ HB2.out;have HW2:=Ld q6;clear hb2 q6)))
   refine wp_region_sched (S:=fun W => Below (w.heap.size + 2) W0 W) [(0,true),(3,true),(4,true),(5,true),(1,false),(2,true),(6,true)] (by kernel_rfl) (by kernel_rfl) (by kernel_rfl) (fun _ _ d _ _ h => by cases d <;> exact h) HB2.out.drew ?_
   clear q0 q1 q2 q3 q4
   repeat (apply sched_take;(exact rfl);rfl;(intro W hW;obtain ⟨⟨q0,q1⟩,⟨q2,q3,q4⟩,q5,q6⟩:=HBX.out W hW;clear q6;go_simp;(try with_reducible rfl));simp only [Act.put,List.setIfInBounds_toArray,List.set_cons_zero,List.set_cons_succ])
   apply sched_run;(exact rfl);rfl;intro K hK;go_simp
   refine (refTab_c A c ⟨tn,cols,keys⟩ w2.drew (HR.out.below HW2.out.drew) HSL.out.2.1).mono ?_
   rintro e w3 ⟨rfl,hb3⟩
   have HB3:=Ld (HB2.out.drew.trans (hb3.mono (show w.heap.size + 2 ≤ w2.drew.heap.size from q5)))
   refine hK.out _ _ HB3.out (fun _ => ?_)
   clear hK K hb3
   try simp only [Act.put,List.setIfInBounds_toArray,List.set_cons_zero,List.set_cons_succ]
   repeat (apply sched_take;(exact rfl);rfl;(intro W hW;go_simp;(try with_reducible rfl));simp only [Act.put,List.setIfInBounds_toArray,List.set_cons_zero,List.set_cons_succ])
   refine sched_done ?_
   have HSZ:=Ld (show (⟨(textB ⟨tn,cols,keys⟩).toArray⟩ : ByteArray).size = (textB ⟨tn,cols,keys⟩).length by simp [ByteArray.size])
   have HW3:=Ld (HBX.out _ HB3.out).2.2.2
   try rw [HQU.out]
   clear q5
   by_cases hlt : pg / 8 < ((textB ⟨tn,cols,keys⟩).length : Int)
   ·go_wp2
    go_ret
    exact ⟨ret_eq (by rw [HCT.out,if_pos hlt];rfl),HW3.out⟩
   ·go_wp2
    go_ret
    exact ⟨ret_eq (by rw [HCT.out,if_neg (by omega)];rfl),HW3.out⟩
  ·have h2' : shapedB ⟨tn,cols,keys⟩ = false:=by simpa using h2
   have HCT:=Ld (show chkT pg wd ⟨tn,cols,keys⟩ = 250 by rw [chkT,if_neg (by rw [h1];decide),if_pos h2'])
   have H1:=Ld h1
   have H2:=Ld h2'
   clear h1 h2 h2'
   go_enter Tryz.func31,Tryz.ntmps31
   go_upto_region 1 with fail
   rw [HW0.out]
   obtain ⟨⟨q0,q1⟩,⟨q2,q3,q4⟩,q5,_⟩:=HBX.out W0 (Below.refl _ _)
   go_wp2_with (first
    | (go_at_call 61;go_must (refine (refRight_c pg wd _).mono ?_;rintro e w1 ⟨rfl,hb1⟩;rw [H1.out];have HB1:=Ld (hb1.mono (show w.heap.size + 2 ≤ _ by rw [HS0.out];omega));clear q0 q1 q2 q3 q4 q5;obtain ⟨⟨q0,q1⟩,⟨q2,q3,q4⟩,q5,q6⟩:=HBX.out _ HB1.out;have HW1:=Ld q6;clear hb1 q6))
    | (go_at_call 62;go_must (refine (may25_c A c ⟨tn,cols,keys⟩ _ (HR.out.below HW1.out)).mono ?_;rintro e w2 ⟨rfl,hb2⟩;rw [H2.out];have HB2:=Ld (HB1.out.trans (hb2.mono (show w.heap.size + 2 ≤ _ by omega)));clear q0 q1 q2 q3 q4 q5;obtain ⟨⟨q0,q1⟩,⟨q2,q3,q4⟩,q5,q6⟩:=HBX.out _ HB2.out;have HW2:=Ld q6;clear hb2 q6)))
   go_ret
   exact ⟨ret_eq (by rw [HCT.out];rfl),HW2.out⟩
 ·have h1' : right pg wd = false:=by simpa using h1
  have HCT:=Ld (show chkT pg wd ⟨tn,cols,keys⟩ = 2 by rw [chkT,if_pos h1'])
  have H1:=Ld h1'
  clear h1 h1'
  go_enter Tryz.func31,Tryz.ntmps31
  go_upto_region 1 with fail
  rw [HW0.out]
  obtain ⟨⟨q0,q1⟩,⟨q2,q3,q4⟩,q5,_⟩:=HBX.out W0 (Below.refl _ _)
  go_wp2_with (go_at_call 61;go_must (refine (refRight_c pg wd _).mono ?_;rintro e w1 ⟨rfl,hb1⟩;rw [H1.out];have HB1:=Ld (hb1.mono (show w.heap.size + 2 ≤ _ by rw [HS0.out];omega));clear q0 q1 q2 q3 q4 q5;obtain ⟨⟨q0,q1⟩,⟨q2,q3,q4⟩,q5,q6⟩:=HBX.out _ HB1.out;have HW1:=Ld q6;clear hb1 q6))
  go_ret
  exact ⟨ret_eq (by rw [HCT.out];rfl),HW1.out⟩
theorem refBounds_c [Inhabited Thr] (pg wd : Int) (A : Option Addr) (c : Nat) (t : TabD) (B : Option Addr) (d : Nat) (l : List VI) (w : World) (hR : RdT w A c t) (hL : RdI w B d l) :
 Calls Tryz.prog 26 #[vF pg wd,vT t A c,.slice B l.length d] w fun e w' => e = .returned (.tuple #[.string ⟨(bndR pg wd t (VI.dataL l)).1.toArray⟩,.string ⟨(bndR pg wd t (VI.dataL l)).2.1.toArray⟩,.int .i64 (bndR pg wd t (VI.dataL l)).2.2]) ∧ Below w.heap.size w w':=by
 have HR:=Ld hR
 have HL:=Ld hL
 have hlen:=hR.hb
 have hlen2:=hL.hb
 have hkk:=hR.hk
 rcases t with ⟨tn,cols,keys⟩
 simp only at hlen hkk
 have HDL:=Ld (show (VI.dataL l).length = l.length by rw [dataL_eq,List.length_map])
 have HBX:=Ld (fun W (h : Below (w.heap.size + 2) ((w.alloc (.cells #[.int .i64 pg,.int .i64 wd] 24)).alloc (.cells #[.string tn,.slice A cols.length c,.int .i64 keys] 27)) W) => boxes_ft h)
 clear hR hL
 by_cases h0 : chkT pg wd ⟨tn,cols,keys⟩ = 0
 ·have HOK:=Ld (chkT_ok h0)
  have HSL:=Ld (shaped_len HOK.out.2)
  have HPG:=Ld (right_pg HOK.out.1)
  have hz0 : ((chkT pg wd ⟨tn,cols,keys⟩ : Int) != 0) = false:=zz h0
  by_cases h1 : keys < (l.length : Int)
  ·have HRES:=Ld (show bndR pg wd ⟨tn,cols,keys⟩ (VI.dataL l) = ([],[],251) by rw [bndR,if_neg (by rw [h0];decide),if_pos (.inl (by rw [HDL.out];exact h1))])
   clear h0
   go_enter Tryz.func26,Tryz.ntmps26
   go_wp2_with (first
    | (go_at_call 31;go_must (refine (refCheck25_c pg wd A c ⟨tn,cols,keys⟩ _ (HR.out.below (two_below w _ _))).mono ?_;rintro e w1 ⟨rfl,hb1⟩;have HB1:=Ld (hb1.mono (show w.heap.size + 2 ≤ _ by simp));obtain ⟨⟨q0,q1⟩,⟨q2,q3,q4⟩,q5,q6⟩:=HBX.out _ HB1.out;have HW1:=Ld q6;clear hb1 q6)))
   obtain ⟨_,_,_,qb⟩:=HBX.out _ HB1.out
   go_ret3
   exact ⟨by rw [HRES.out];rfl,qb⟩
  ·by_cases h2 : fitL cols (VI.dataL l) = true
   ·have HFT:=Ld h2
    have HLE:=Ld (show (l.length : Int) ≤ keys by omega)
    have HLL:=Ld (show l.length ≤ 1000 by have:=HSL.out;have:=HLE.out;simp only at *;omega)
    by_cases h3 : chkL (underL ⟨tn,cols,keys⟩ (VI.dataL l)) = 0
    ·have HPE:=Ld (show underE (VI.dataL (vText tn :: l)) = _ from (congrArg underE (under_data ⟨tn,cols,keys⟩ l)).trans (ue0 h3))
     have HRES:=Ld (show bndR pg wd ⟨tn,cols,keys⟩ (VI.dataL l) = (packL (underL ⟨tn,cols,keys⟩ (VI.dataL l)),hiB (packL (underL ⟨tn,cols,keys⟩ (VI.dataL l))),0) by rw [bndR,if_neg (by rw [h0];decide),if_neg (by rintro (h | h);exact h1 (by rw [HDL.out] at h;exact h);rw [h2] at h;cases h),if_neg (by rw [h3];decide)])
     clear h0 h2 h3
     go_enter Tryz.func26,Tryz.ntmps26
     go_wp2_with (first
      | (go_at_call 31;go_must (refine (refCheck25_c pg wd A c ⟨tn,cols,keys⟩ _ (HR.out.below (two_below w _ _))).mono ?_;rintro e w1 ⟨rfl,hb1⟩;have HB1:=Ld (hb1.mono (show w.heap.size + 2 ≤ _ by simp));obtain ⟨⟨q0,q1⟩,⟨q2,q3,q4⟩,q5,q6⟩:=HBX.out _ HB1.out;have HW1:=Ld q6;clear hb1 q6))
      | (go_at_call 53;go_must (refine (first_c A c ⟨tn,cols,keys⟩ B d l _ (HR.out.below HW1.out) (HL.out.below HW1.out)).mono ?_;rintro e w2 ⟨rfl,hb2⟩;rw [HFT.out];have HB2:=Ld (HB1.out.trans (hb2.mono (show w.heap.size + 2 ≤ _ by omega)));clear q0 q1 q2 q3 q4 q5;obtain ⟨⟨q0,q1⟩,⟨q2,q3,q4⟩,q5,q6⟩:=HBX.out _ HB2.out;have HW2:=Ld q6;clear hb2 q6))
      | (go_at_call 55;go_must (refine (named25_c A c ⟨tn,cols,keys⟩ B d l _ HR.out.hn (HL.out.below HW2.out) HLL.out).mono ?_;rintro e w3 ⟨A3,c3,rfl,hR3,hb3⟩;have HR3:=Ld hR3;have HB3:=Ld (HB2.out.trans (hb3.mono (show w.heap.size + 2 ≤ _ by omega)));clear q0 q1 q2 q3 q4 q5;obtain ⟨⟨q0,q1⟩,⟨q2,q3,q4⟩,q5,q6⟩:=HBX.out _ HB3.out;have HW3:=Ld q6;clear hb3 hR3 q6))
      | (go_at_call 54;go_must (refine (refUnder_c A3 c3 (vText tn :: l) _ HR3.out).mono ?_;rintro e w4 ⟨rfl,hb4⟩;rw [HPE.out];have HB4:=Ld (HB3.out.trans (hb4.mono (show w.heap.size + 2 ≤ _ by omega)));clear q0 q1 q2 q3 q4 q5;obtain ⟨⟨q0,q1⟩,⟨q2,q3,q4⟩,q5,q6⟩:=HBX.out _ HB4.out;have HW4:=Ld q6;clear hb4 q6)))
     obtain ⟨_,_,_,qb⟩:=HBX.out _ HB4.out
     go_ret3
     exact ⟨by rw [HRES.out];rfl,qb⟩
    ·have HPE:=Ld (show underE (VI.dataL (vText tn :: l)) = _ from (congrArg underE (under_data ⟨tn,cols,keys⟩ l)).trans (ue1 h3))
     have HRES:=Ld (show bndR pg wd ⟨tn,cols,keys⟩ (VI.dataL l) = ([],[],4) by rw [bndR,if_neg (by rw [h0];decide),if_neg (by rintro (h | h);exact h1 (by rw [HDL.out] at h;exact h);rw [h2] at h;cases h),if_pos h3])
     have hz3:=nz h3
     clear h0 h2 h3
     go_enter Tryz.func26,Tryz.ntmps26
     go_wp2_with (first
      | (go_at_call 31;go_must (refine (refCheck25_c pg wd A c ⟨tn,cols,keys⟩ _ (HR.out.below (two_below w _ _))).mono ?_;rintro e w1 ⟨rfl,hb1⟩;have HB1:=Ld (hb1.mono (show w.heap.size + 2 ≤ _ by simp));obtain ⟨⟨q0,q1⟩,⟨q2,q3,q4⟩,q5,q6⟩:=HBX.out _ HB1.out;have HW1:=Ld q6;clear hb1 q6))
      | (go_at_call 53;go_must (refine (first_c A c ⟨tn,cols,keys⟩ B d l _ (HR.out.below HW1.out) (HL.out.below HW1.out)).mono ?_;rintro e w2 ⟨rfl,hb2⟩;rw [HFT.out];have HB2:=Ld (HB1.out.trans (hb2.mono (show w.heap.size + 2 ≤ _ by omega)));clear q0 q1 q2 q3 q4 q5;obtain ⟨⟨q0,q1⟩,⟨q2,q3,q4⟩,q5,q6⟩:=HBX.out _ HB2.out;have HW2:=Ld q6;clear hb2 q6))
      | (go_at_call 55;go_must (refine (named25_c A c ⟨tn,cols,keys⟩ B d l _ HR.out.hn (HL.out.below HW2.out) HLL.out).mono ?_;rintro e w3 ⟨A3,c3,rfl,hR3,hb3⟩;have HR3:=Ld hR3;have HB3:=Ld (HB2.out.trans (hb3.mono (show w.heap.size + 2 ≤ _ by omega)));clear q0 q1 q2 q3 q4 q5;obtain ⟨⟨q0,q1⟩,⟨q2,q3,q4⟩,q5,q6⟩:=HBX.out _ HB3.out;have HW3:=Ld q6;clear hb3 hR3 q6))
      | (go_at_call 54;go_must (refine (refUnder_c A3 c3 (vText tn :: l) _ HR3.out).mono ?_;rintro e w4 ⟨rfl,hb4⟩;rw [HPE.out];have HB4:=Ld (HB3.out.trans (hb4.mono (show w.heap.size + 2 ≤ _ by omega)));clear q0 q1 q2 q3 q4 q5;obtain ⟨⟨q0,q1⟩,⟨q2,q3,q4⟩,q5,q6⟩:=HBX.out _ HB4.out;have HW4:=Ld q6;clear hb4 q6)))
     obtain ⟨_,_,_,qb⟩:=HBX.out _ HB4.out
     go_ret3
     exact ⟨by rw [HRES.out];rfl,qb⟩
   ·have h2' : fitL cols (VI.dataL l) = false:=by simpa using h2
    have HFT:=Ld h2'
    have HRES:=Ld (show bndR pg wd ⟨tn,cols,keys⟩ (VI.dataL l) = ([],[],251) by rw [bndR,if_neg (by rw [h0];decide),if_pos (.inr h2')])
    clear h0 h2 h2'
    go_enter Tryz.func26,Tryz.ntmps26
    go_wp2_with (first
     | (go_at_call 31;go_must (refine (refCheck25_c pg wd A c ⟨tn,cols,keys⟩ _ (HR.out.below (two_below w _ _))).mono ?_;rintro e w1 ⟨rfl,hb1⟩;have HB1:=Ld (hb1.mono (show w.heap.size + 2 ≤ _ by simp));obtain ⟨⟨q0,q1⟩,⟨q2,q3,q4⟩,q5,q6⟩:=HBX.out _ HB1.out;have HW1:=Ld q6;clear hb1 q6))
     | (go_at_call 53;go_must (refine (first_c A c ⟨tn,cols,keys⟩ B d l _ (HR.out.below HW1.out) (HL.out.below HW1.out)).mono ?_;rintro e w2 ⟨rfl,hb2⟩;rw [HFT.out];have HB2:=Ld (HB1.out.trans (hb2.mono (show w.heap.size + 2 ≤ _ by omega)));clear q0 q1 q2 q3 q4 q5;obtain ⟨⟨q0,q1⟩,⟨q2,q3,q4⟩,q5,q6⟩:=HBX.out _ HB2.out;have HW2:=Ld q6;clear hb2 q6)))
    obtain ⟨_,_,_,qb⟩:=HBX.out _ HB2.out
    go_ret3
    exact ⟨by rw [HRES.out];rfl,qb⟩
 ·have hz0:=nz h0
  have HRES:=Ld (show bndR pg wd ⟨tn,cols,keys⟩ (VI.dataL l) = ([],[],chkT pg wd ⟨tn,cols,keys⟩) by rw [bndR,if_pos h0])
  clear h0
  go_enter Tryz.func26,Tryz.ntmps26
  go_wp2_with (first
   | (go_at_call 31;go_must (refine (refCheck25_c pg wd A c ⟨tn,cols,keys⟩ _ (HR.out.below (two_below w _ _))).mono ?_;rintro e w1 ⟨rfl,hb1⟩;have HB1:=Ld (hb1.mono (show w.heap.size + 2 ≤ _ by simp));obtain ⟨⟨q0,q1⟩,⟨q2,q3,q4⟩,q5,q6⟩:=HBX.out _ HB1.out;have HW1:=Ld q6;clear hb1 q6)))
  obtain ⟨_,_,_,qb⟩:=HBX.out _ HB1.out
  go_ret3
  exact ⟨by rw [HRES.out];rfl,qb⟩
end
end Go.Proofs.YtonjgedhmmnolaaGreatDoor
