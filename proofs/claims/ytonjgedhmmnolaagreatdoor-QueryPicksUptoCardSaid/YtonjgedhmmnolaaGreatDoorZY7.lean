import Derived.Test.YtonjgedhmmnolaaGreatDoorZY6
namespace Go.Proofs.YtonjgedhmmnolaaGreatDoor
section
open Go.RowKit
set_option maxHeartbeats 2000000
set_option maxRecDepth 100000
theorem u8_neq {t c : UInt8} (h : t ≠ c) : ((t.toNat : Int) == (c.toNat : Int)) = false:=by
 rw [beq_eq_false_iff_ne];intro e;exact h (UInt8.toNat_inj.1 (by omega))
theorem redI_0 (l : List UInt8) : redI 0 l = none:=by rw [redI]
theorem redI_nil (r : Nat) : redI (r + 1) [] = none:=by rw [redI]
theorem redI_cons (r : Nat) (t : UInt8) (s : List UInt8) : redI (r + 1) (t :: s) =
 if t = 1 then some (.mk 1 false 0 0 ⟨#[]⟩ [],s) else if t = 2 then some (.mk 2 false 0 0 ⟨#[]⟩ [],s) else if t = 3 then some (.mk 2 true 0 0 ⟨#[]⟩ [],s)
 else if 12 ≤ t.toNat ∧ t.toNat ≤ 28 then redW ((t.toNat : Int) - 20) s
 else if t = 32 ∧ 8 ≤ s.length then some (.mk 4 false 0 (fltU (numB (s.take 8))) ⟨#[]⟩ [],s.drop 8)
 else if t = 36 then texI s else if t = 40 then lstI (redM (redI r) (s.length + 1) s) else none:=by rw [redI]
theorem readK1_c [Inhabited Thr] (r : Nat) (t : UInt8) (s : List UInt8) (d : Nat) (w : World) (hd : d + (r + 1) = 9) (hl : (t :: s).length ≤ 4096) (ht : t = 1) :
 Calls Tryz.prog 132 #[.string ⟨(t :: s).toArray⟩,.int .i64 d] w (ReadEnd (redI (r + 1) (t :: s)) w):=by
 have HRD:=Ld (redI_cons r t s)
 obtain ⟨R,hR⟩ : ∃ R,redI (r + 1) (t :: s) = R:=⟨_,rfl⟩
 rw [hR] at HRD ⊢
 have hls : s.length ≤ 4095:=by simpa using hl
 subst ht
 have HE:=Ld (show R = some (.mk 1 false 0 0 ⟨#[]⟩ [],s) by rw [HRD.out];rfl)
 have hd8 : d ≤ 8:=by omega
 have HDD:=Ld hd
 clear hR hl hd
 obtain ⟨W0,hW0⟩ : ∃ W0,w.alloc (.cells (c6 0 false 0 0 ⟨#[]⟩ none 0 0) 54) = W0:=⟨_,rfl⟩
 have HW0:=Ld hW0
 have HBX:=Ld (fun W (h : Below (w.heap.size + 1) W0 W) => box_i (hW0 ▸ h))
 have HS0:=Ld (show W0.heap.size = w.heap.size + 1 by rw [← hW0];simp)
 have HR0:=Ld (show W0.heap[w.heap.size]? = some (.cells (c6 0 false 0 0 ⟨#[]⟩ none 0 0) 54 (0,0)) by rw [← hW0];exact heap_alloc_new w _)
 have HB0:=Ld (show Below w.heap.size w W0 by rw [← hW0];exact (Below.refl _ _).alloc (Nat.le_refl _) _)
 clear hW0
 have hi0:=idx0 (1 : UInt8) s
 have hsz:=size_mk ((1 : UInt8) :: s)
 have hszs:=size_mk s
 have hem : ((⟨((1 : UInt8) :: s).toArray⟩ : ByteArray).toList == []) = false:=by rw [ByteArray.toList_eq];rfl
 have hsl : ∀ wx : World,(Instr.slice 9 (.string ⟨((1 : UInt8) :: s).toArray⟩) (some (.int .i64 1)) none none).run Tryz.prog wx = .ok (.string ⟨s.toArray⟩) wx:=fun wx => strS_from ((1 : UInt8) :: s) 1 (by simp) .i64 wx
 go_enter Tryz.func132,Tryz.ntmps132
 go_upto_region 1 with fail
 rw [show w.alloc (.cells #[.int .u8 0,.bool false,.int .i64 0,.float .f64 0,.string ⟨#[]⟩,.slice none 0 0] 54) = W0 from HW0.out]
 go_upto_region 3 with fail
 refine wp_region_sched (S:=fun W => Below W0.heap.size W0 W) [(0,true),(1,true),(2,true),(3,true),(4,true),(5,true),(6,true)] (by kernel_rfl) (by kernel_rfl) (by kernel_rfl) (fun _ _ d _ _ h => by cases d <;> exact h) (Below.refl _ _).drew ?_
 repeat (apply sched_take;(exact rfl);rfl;(intro W hW;go_simp;(try with_reducible rfl));simp only [Act.put,List.setIfInBounds_toArray,List.set_cons_zero,List.set_cons_succ])
 refine sched_done ?_
 have HR1:=Ld (show W0.drew.heap[w.heap.size]? = some (.cells (c6 0 false 0 0 ⟨#[]⟩ none 0 0) 54 (0,0)) from HR0.out)
 have HB1:=Ld (show Below w.heap.size w W0.drew from HB0.out.drew)
 clear hi0 hsl hem hsz
 go_wp2_with (refine wpList_store_row rfl 54 (.tmp 4) (.tmp 26) rfl w.heap.size (c6 1 false 0 0 ⟨#[]⟩ none 0 0) rfl rfl 54 _ HR1.out (by kernel_rfl) rfl (one6 _ _ _ _ _ _ _ _) ?_)
 refine bodyPost_ret (results_ctt rfl _ _ w.heap.size 54 _ (0,0) _ rfl (setRow_block _ _ _ _ _ _ (HR1.out)) Tryz.underlying54 rfl (by kernel_rfl)) rfl ⟨below_setRow (HB1.out) (Nat.le_refl _) _,?_⟩
 rw [HE.out]
 exact ⟨VI.mk 1 false 0 0 ⟨#[]⟩ none 0 [],rfl,by simp [VI.data,VI.dataL],RdV.plain _ _ _ _ _ _ (by decide) (by decide) (by decide) (by decide),BlkV.plain _ _ _ _ _ _⟩
theorem readK2_c [Inhabited Thr] (r : Nat) (t : UInt8) (s : List UInt8) (d : Nat) (w : World) (hd : d + (r + 1) = 9) (hl : (t :: s).length ≤ 4096) (ht : t = 2) :
 Calls Tryz.prog 132 #[.string ⟨(t :: s).toArray⟩,.int .i64 d] w (ReadEnd (redI (r + 1) (t :: s)) w):=by
 have HRD:=Ld (redI_cons r t s)
 obtain ⟨R,hR⟩ : ∃ R,redI (r + 1) (t :: s) = R:=⟨_,rfl⟩
 rw [hR] at HRD ⊢
 have hls : s.length ≤ 4095:=by simpa using hl
 subst ht
 have HE:=Ld (show R = some (.mk 2 false 0 0 ⟨#[]⟩ [],s) by rw [HRD.out];rfl)
 have hd8 : d ≤ 8:=by omega
 have HDD:=Ld hd
 clear hR hl hd
 obtain ⟨W0,hW0⟩ : ∃ W0,w.alloc (.cells (c6 0 false 0 0 ⟨#[]⟩ none 0 0) 54) = W0:=⟨_,rfl⟩
 have HW0:=Ld hW0
 have HBX:=Ld (fun W (h : Below (w.heap.size + 1) W0 W) => box_i (hW0 ▸ h))
 have HS0:=Ld (show W0.heap.size = w.heap.size + 1 by rw [← hW0];simp)
 have HR0:=Ld (show W0.heap[w.heap.size]? = some (.cells (c6 0 false 0 0 ⟨#[]⟩ none 0 0) 54 (0,0)) by rw [← hW0];exact heap_alloc_new w _)
 have HB0:=Ld (show Below w.heap.size w W0 by rw [← hW0];exact (Below.refl _ _).alloc (Nat.le_refl _) _)
 clear hW0
 have hi0:=idx0 (2 : UInt8) s
 have hsz:=size_mk ((2 : UInt8) :: s)
 have hszs:=size_mk s
 have hem : ((⟨((2 : UInt8) :: s).toArray⟩ : ByteArray).toList == []) = false:=by rw [ByteArray.toList_eq];rfl
 have hsl : ∀ wx : World,(Instr.slice 9 (.string ⟨((2 : UInt8) :: s).toArray⟩) (some (.int .i64 1)) none none).run Tryz.prog wx = .ok (.string ⟨s.toArray⟩) wx:=fun wx => strS_from ((2 : UInt8) :: s) 1 (by simp) .i64 wx
 go_enter Tryz.func132,Tryz.ntmps132
 go_upto_region 1 with fail
 rw [show w.alloc (.cells #[.int .u8 0,.bool false,.int .i64 0,.float .f64 0,.string ⟨#[]⟩,.slice none 0 0] 54) = W0 from HW0.out]
 go_upto_region 3 with fail
 refine wp_region_sched (S:=fun W => Below W0.heap.size W0 W) [(0,true),(1,true),(2,true),(3,true),(4,true),(5,true),(6,true)] (by kernel_rfl) (by kernel_rfl) (by kernel_rfl) (fun _ _ d _ _ h => by cases d <;> exact h) (Below.refl _ _).drew ?_
 repeat (apply sched_take;(exact rfl);rfl;(intro W hW;go_simp;(try with_reducible rfl));simp only [Act.put,List.setIfInBounds_toArray,List.set_cons_zero,List.set_cons_succ])
 refine sched_done ?_
 have HR1:=Ld (show W0.drew.heap[w.heap.size]? = some (.cells (c6 0 false 0 0 ⟨#[]⟩ none 0 0) 54 (0,0)) from HR0.out)
 have HB1:=Ld (show Below w.heap.size w W0.drew from HB0.out.drew)
 clear hi0 hsl hem hsz
 go_wp2_with (refine wpList_store_row rfl 54 (.tmp 4) (.tmp 37) rfl w.heap.size (c6 2 false 0 0 ⟨#[]⟩ none 0 0) rfl rfl 54 _ HR1.out (by kernel_rfl) rfl (one6 _ _ _ _ _ _ _ _) ?_)
 refine bodyPost_ret (results_ctt rfl _ _ w.heap.size 54 _ (0,0) _ rfl (setRow_block _ _ _ _ _ _ (HR1.out)) Tryz.underlying54 rfl (by kernel_rfl)) rfl ⟨below_setRow (HB1.out) (Nat.le_refl _) _,?_⟩
 rw [HE.out]
 exact ⟨VI.mk 2 false 0 0 ⟨#[]⟩ none 0 [],rfl,by simp [VI.data,VI.dataL],RdV.plain _ _ _ _ _ _ (by decide) (by decide) (by decide) (by decide),BlkV.plain _ _ _ _ _ _⟩
theorem readK3_c [Inhabited Thr] (r : Nat) (t : UInt8) (s : List UInt8) (d : Nat) (w : World) (hd : d + (r + 1) = 9) (hl : (t :: s).length ≤ 4096) (ht : t = 3) :
 Calls Tryz.prog 132 #[.string ⟨(t :: s).toArray⟩,.int .i64 d] w (ReadEnd (redI (r + 1) (t :: s)) w):=by
 have HRD:=Ld (redI_cons r t s)
 obtain ⟨R,hR⟩ : ∃ R,redI (r + 1) (t :: s) = R:=⟨_,rfl⟩
 rw [hR] at HRD ⊢
 have hls : s.length ≤ 4095:=by simpa using hl
 subst ht
 have HE:=Ld (show R = some (.mk 2 true 0 0 ⟨#[]⟩ [],s) by rw [HRD.out];rfl)
 have hd8 : d ≤ 8:=by omega
 have HDD:=Ld hd
 clear hR hl hd
 obtain ⟨W0,hW0⟩ : ∃ W0,w.alloc (.cells (c6 0 false 0 0 ⟨#[]⟩ none 0 0) 54) = W0:=⟨_,rfl⟩
 have HW0:=Ld hW0
 have HBX:=Ld (fun W (h : Below (w.heap.size + 1) W0 W) => box_i (hW0 ▸ h))
 have HS0:=Ld (show W0.heap.size = w.heap.size + 1 by rw [← hW0];simp)
 have HR0:=Ld (show W0.heap[w.heap.size]? = some (.cells (c6 0 false 0 0 ⟨#[]⟩ none 0 0) 54 (0,0)) by rw [← hW0];exact heap_alloc_new w _)
 have HB0:=Ld (show Below w.heap.size w W0 by rw [← hW0];exact (Below.refl _ _).alloc (Nat.le_refl _) _)
 clear hW0
 have hi0:=idx0 (3 : UInt8) s
 have hsz:=size_mk ((3 : UInt8) :: s)
 have hszs:=size_mk s
 have hem : ((⟨((3 : UInt8) :: s).toArray⟩ : ByteArray).toList == []) = false:=by rw [ByteArray.toList_eq];rfl
 have hsl : ∀ wx : World,(Instr.slice 9 (.string ⟨((3 : UInt8) :: s).toArray⟩) (some (.int .i64 1)) none none).run Tryz.prog wx = .ok (.string ⟨s.toArray⟩) wx:=fun wx => strS_from ((3 : UInt8) :: s) 1 (by simp) .i64 wx
 go_enter Tryz.func132,Tryz.ntmps132
 go_upto_region 1 with fail
 rw [show w.alloc (.cells #[.int .u8 0,.bool false,.int .i64 0,.float .f64 0,.string ⟨#[]⟩,.slice none 0 0] 54) = W0 from HW0.out]
 go_upto_region 3 with fail
 refine wp_region_sched (S:=fun W => Below W0.heap.size W0 W) [(0,true),(1,true),(2,true),(3,true),(4,true),(5,true),(6,true)] (by kernel_rfl) (by kernel_rfl) (by kernel_rfl) (fun _ _ d _ _ h => by cases d <;> exact h) (Below.refl _ _).drew ?_
 repeat (apply sched_take;(exact rfl);rfl;(intro W hW;go_simp;(try with_reducible rfl));simp only [Act.put,List.setIfInBounds_toArray,List.set_cons_zero,List.set_cons_succ])
 refine sched_done ?_
 have HR1:=Ld (show W0.drew.heap[w.heap.size]? = some (.cells (c6 0 false 0 0 ⟨#[]⟩ none 0 0) 54 (0,0)) from HR0.out)
 have HB1:=Ld (show Below w.heap.size w W0.drew from HB0.out.drew)
 clear hi0 hsl hem hsz
 go_wp2_with (refine wpList_store_row rfl 54 (.tmp 4) (.tmp 37) rfl w.heap.size (c6 2 true 0 0 ⟨#[]⟩ none 0 0) rfl rfl 54 _ HR1.out (by kernel_rfl) rfl (one6 _ _ _ _ _ _ _ _) ?_)
 refine bodyPost_ret (results_ctt rfl _ _ w.heap.size 54 _ (0,0) _ rfl (setRow_block _ _ _ _ _ _ (HR1.out)) Tryz.underlying54 rfl (by kernel_rfl)) rfl ⟨below_setRow (HB1.out) (Nat.le_refl _) _,?_⟩
 rw [HE.out]
 exact ⟨VI.mk 2 true 0 0 ⟨#[]⟩ none 0 [],rfl,by simp [VI.data,VI.dataL],RdV.plain _ _ _ _ _ _ (by decide) (by decide) (by decide) (by decide),BlkV.plain _ _ _ _ _ _⟩
theorem valW_range (n : Int) (u : Nat) : -9223372036854775808 ≤ valW n u ∧ valW n u ≤ 9223372036854775807:=by
 unfold valW
 split <;> rw [IntKind.wrap_i64] <;> (try unfold wrap64) <;> omega
end
section
open Go.RowKit
set_option maxHeartbeats 2000000
set_option maxRecDepth 100000
theorem readT_c [Inhabited Thr] (r : Nat) (t : UInt8) (s : List UInt8) (d : Nat) (w : World) (hd : d + (r + 1) = 9) (hl : (t :: s).length ≤ 4096) (ht : t = 36) :
 Calls Tryz.prog 132 #[.string ⟨(t :: s).toArray⟩,.int .i64 d] w (ReadEnd (redI (r + 1) (t :: s)) w):=by
 have HRD:=Ld (redI_cons r t s)
 obtain ⟨R,hR⟩ : ∃ R,redI (r + 1) (t :: s) = R:=⟨_,rfl⟩
 rw [hR] at HRD ⊢
 have hls : s.length ≤ 4095:=by simpa using hl
 subst ht
 have HE:=Ld (show R = texI s by rw [HRD.out];rfl)
 have hd8 : d ≤ 8:=by omega
 have HDD:=Ld hd
 clear hR hl hd
 obtain ⟨W0,hW0⟩ : ∃ W0,w.alloc (.cells (c6 0 false 0 0 ⟨#[]⟩ none 0 0) 54) = W0:=⟨_,rfl⟩
 have HW0:=Ld hW0
 have HBX:=Ld (fun W (h : Below (w.heap.size + 1) W0 W) => box_i (hW0 ▸ h))
 have HS0:=Ld (show W0.heap.size = w.heap.size + 1 by rw [← hW0];simp)
 have HR0:=Ld (show W0.heap[w.heap.size]? = some (.cells (c6 0 false 0 0 ⟨#[]⟩ none 0 0) 54 (0,0)) by rw [← hW0];exact heap_alloc_new w _)
 have HB0:=Ld (show Below w.heap.size w W0 by rw [← hW0];exact (Below.refl _ _).alloc (Nat.le_refl _) _)
 clear hW0
 have hi0:=idx0 (36 : UInt8) s
 have hsz:=size_mk ((36 : UInt8) :: s)
 have hszs:=size_mk s
 have hem : ((⟨((36 : UInt8) :: s).toArray⟩ : ByteArray).toList == []) = false:=by rw [ByteArray.toList_eq];rfl
 have hsl : ∀ wx : World,(Instr.slice 9 (.string ⟨((36 : UInt8) :: s).toArray⟩) (some (.int .i64 1)) none none).run Tryz.prog wx = .ok (.string ⟨s.toArray⟩) wx:=fun wx => strS_from ((36 : UInt8) :: s) 1 (by simp) .i64 wx
 go_enter Tryz.func132,Tryz.ntmps132
 go_upto_region 1 with fail
 rw [show w.alloc (.cells #[.int .u8 0,.bool false,.int .i64 0,.float .f64 0,.string ⟨#[]⟩,.slice none 0 0] 54) = W0 from HW0.out]
 go_upto_region 3 with fail
 refine wp_region_sched (S:=fun W => Below W0.heap.size W0 W) [(0,true),(1,true),(2,true),(3,true),(4,true),(5,true),(6,true)] (by kernel_rfl) (by kernel_rfl) (by kernel_rfl) (fun _ _ d _ _ h => by cases d <;> exact h) (Below.refl _ _).drew ?_
 repeat (apply sched_take;(exact rfl);rfl;(intro W hW;go_simp;(try with_reducible rfl));simp only [Act.put,List.setIfInBounds_toArray,List.set_cons_zero,List.set_cons_succ])
 refine sched_done ?_
 have HR1:=Ld (show W0.drew.heap[w.heap.size]? = some (.cells (c6 0 false 0 0 ⟨#[]⟩ none 0 0) 54 (0,0)) from HR0.out)
 have HB1:=Ld (show Below w.heap.size w W0.drew from HB0.out.drew)
 clear hi0 hsl hem hsz
 have HCC:=Ld (fun w => readText_l s w (by omega))
 cases hq : texI s with
 | none =>
   rw [hq] at HE
   simp only [hq] at HCC
   clear hq
   go_wp2_with (first
    | (go_at_call 143;go_must (refine (HCC.out _).mono ?_;rintro e w1 ⟨hb,rfl⟩;simp only [VI.val,VI.k,VI.b,VI.n,VI.f,VI.t,VI.A,VI.c,VI.l,List.length_nil];have HB2:=Ld (((Below.refl W0.heap.size W0).drew.trans hb).mono (Nat.le_of_eq HS0.out.symm));have HX2:=Ld (HBX.out _ HB2.out);clear hb))
    | (refine wpList_store_row rfl 54 (.tmp 4) (.tmp 114) rfl w.heap.size (c6 0 false 0 0 ⟨#[]⟩ none 0 0) rfl rfl 54 _ HX2.out.1 (by kernel_rfl) rfl (one6 _ _ _ _ _ _ _ _) ?_))
   refine bodyPost_ret (results_ctt rfl _ _ w.heap.size 54 _ (0,0) _ rfl (setRow_block _ _ _ _ _ _ (HX2.out.1)) Tryz.underlying54 rfl (by kernel_rfl)) rfl ⟨below_setRow (HX2.out.2.2) (Nat.le_refl _) _,?_⟩
   rw [HE.out]
   rfl
 | some p =>
   rw [hq] at HE
   simp only [hq] at HCC
   obtain ⟨pi,pr⟩:=p
   (try simp only at HCC)
   clear hq
   go_wp2_with (first
    | (go_at_call 143;go_must (refine (HCC.out _).mono ?_;rintro e w1 ⟨hb,x,rfl,hx,hrx,hbx⟩;have HX:=Ld hx;have HRX:=Ld hrx;have HBV:=Ld hbx;have HB2:=Ld (((Below.refl W0.heap.size W0).drew.trans hb).mono (Nat.le_of_eq HS0.out.symm));have HX2:=Ld (HBX.out _ HB2.out);rcases x with ⟨xk,xb,xn,xf,xt,xA,xc,xl⟩;simp only [VI.val,VI.k,VI.b,VI.n,VI.f,VI.t,VI.A,VI.c,VI.l];clear hx hrx hbx hb))
    | (refine wpList_store_row rfl 54 (.tmp 4) (.tmp 114) rfl w.heap.size (c6 xk xb xn xf xt xA xl.length xc) rfl rfl 54 _ HX2.out.1 (by kernel_rfl) rfl (one6 _ _ _ _ _ _ _ _) ?_))
   refine bodyPost_ret (results_ctt rfl _ _ w.heap.size 54 _ (0,0) _ rfl (setRow_block _ _ _ _ _ _ (HX2.out.1)) Tryz.underlying54 rfl (by kernel_rfl)) rfl ⟨below_setRow (HX2.out.2.2) (Nat.le_refl _) _,?_⟩
   rw [HE.out]
   have hkp : Kept (fun k => k = w.heap.size) w1 (w1.setRow w.heap.size (c6 xk xb xn xf xt xA xl.length xc)):=⟨rfl,rfl,rfl,by simp [World.setRow],fun k _ hk => setRow_other _ _ _ _ hk⟩
   refine ⟨.mk xk xb xn xf xt xA xc xl,rfl,HX.out,RdV.kept HRX.out hkp (HBV.out.mono fun k hk e => ?_),HBV.out.mono fun k hk => ?_⟩
   ·have h1:=HS0.out;have h2 : W0.drew.heap.size = W0.heap.size:=rfl;omega
   ·have h1:=HS0.out;have h2 : W0.drew.heap.size = W0.heap.size:=rfl;omega
theorem readL_c [Inhabited Thr] (r : Nat) (IH : ReadIH r) (t : UInt8) (s : List UInt8) (d : Nat) (w : World) (hd : d + (r + 1) = 9) (hl : (t :: s).length ≤ 4096) (ht : t = 40) :
 Calls Tryz.prog 132 #[.string ⟨(t :: s).toArray⟩,.int .i64 d] w (ReadEnd (redI (r + 1) (t :: s)) w):=by
 have HRD:=Ld (redI_cons r t s)
 obtain ⟨R,hR⟩ : ∃ R,redI (r + 1) (t :: s) = R:=⟨_,rfl⟩
 rw [hR] at HRD ⊢
 have hls : s.length ≤ 4095:=by simpa using hl
 subst ht
 have HIH:=Ld IH
 clear IH
 have HE:=Ld (show R = lstI (redM (redI r) (s.length + 1) s) by rw [HRD.out];rfl)
 have hd8 : d ≤ 8:=by omega
 have HDD:=Ld hd
 clear hR hl hd
 obtain ⟨W0,hW0⟩ : ∃ W0,w.alloc (.cells (c6 0 false 0 0 ⟨#[]⟩ none 0 0) 54) = W0:=⟨_,rfl⟩
 have HW0:=Ld hW0
 have HBX:=Ld (fun W (h : Below (w.heap.size + 1) W0 W) => box_i (hW0 ▸ h))
 have HS0:=Ld (show W0.heap.size = w.heap.size + 1 by rw [← hW0];simp)
 have HR0:=Ld (show W0.heap[w.heap.size]? = some (.cells (c6 0 false 0 0 ⟨#[]⟩ none 0 0) 54 (0,0)) by rw [← hW0];exact heap_alloc_new w _)
 have HB0:=Ld (show Below w.heap.size w W0 by rw [← hW0];exact (Below.refl _ _).alloc (Nat.le_refl _) _)
 clear hW0
 have hi0:=idx0 (40 : UInt8) s
 have hsz:=size_mk ((40 : UInt8) :: s)
 have hszs:=size_mk s
 have hem : ((⟨((40 : UInt8) :: s).toArray⟩ : ByteArray).toList == []) = false:=by rw [ByteArray.toList_eq];rfl
 have hsl : ∀ wx : World,(Instr.slice 9 (.string ⟨((40 : UInt8) :: s).toArray⟩) (some (.int .i64 1)) none none).run Tryz.prog wx = .ok (.string ⟨s.toArray⟩) wx:=fun wx => strS_from ((40 : UInt8) :: s) 1 (by simp) .i64 wx
 go_enter Tryz.func132,Tryz.ntmps132
 go_upto_region 1 with fail
 rw [show w.alloc (.cells #[.int .u8 0,.bool false,.int .i64 0,.float .f64 0,.string ⟨#[]⟩,.slice none 0 0] 54) = W0 from HW0.out]
 go_upto_region 3 with fail
 refine wp_region_sched (S:=fun W => Below W0.heap.size W0 W) [(0,true),(1,true),(2,true),(3,true),(4,true),(5,true),(6,true)] (by kernel_rfl) (by kernel_rfl) (by kernel_rfl) (fun _ _ d _ _ h => by cases d <;> exact h) (Below.refl _ _).drew ?_
 repeat (apply sched_take;(exact rfl);rfl;(intro W hW;go_simp;(try with_reducible rfl));simp only [Act.put,List.setIfInBounds_toArray,List.set_cons_zero,List.set_cons_succ])
 refine sched_done ?_
 have HR1:=Ld (show W0.drew.heap[w.heap.size]? = some (.cells (c6 0 false 0 0 ⟨#[]⟩ none 0 0) 54 (0,0)) from HR0.out)
 have HB1:=Ld (show Below w.heap.size w W0.drew from HB0.out.drew)
 clear hi0 hsl hem hsz
 have HCC:=Ld (fun w => readList_c r HIH.out s d w HDD.out (by omega))
 cases hq : lstI (redM (redI r) (s.length + 1) s) with
 | none =>
   rw [hq] at HE
   simp only [hq] at HCC
   clear hq
   go_wp2_with (first
    | (go_at_call 144;go_must (refine (HCC.out _).mono ?_;rintro e w1 ⟨hb,rfl⟩;simp only [VI.val,VI.k,VI.b,VI.n,VI.f,VI.t,VI.A,VI.c,VI.l,List.length_nil];have HB2:=Ld (((Below.refl W0.heap.size W0).drew.trans hb).mono (Nat.le_of_eq HS0.out.symm));have HX2:=Ld (HBX.out _ HB2.out);clear hb))
    | (refine wpList_store_row rfl 54 (.tmp 4) (.tmp 123) rfl w.heap.size (c6 0 false 0 0 ⟨#[]⟩ none 0 0) rfl rfl 54 _ HX2.out.1 (by kernel_rfl) rfl (one6 _ _ _ _ _ _ _ _) ?_))
   refine bodyPost_ret (results_ctt rfl _ _ w.heap.size 54 _ (0,0) _ rfl (setRow_block _ _ _ _ _ _ (HX2.out.1)) Tryz.underlying54 rfl (by kernel_rfl)) rfl ⟨below_setRow (HX2.out.2.2) (Nat.le_refl _) _,?_⟩
   rw [HE.out]
   rfl
 | some p =>
   rw [hq] at HE
   simp only [hq] at HCC
   obtain ⟨pi,pr⟩:=p
   (try simp only at HCC)
   clear hq
   go_wp2_with (first
    | (go_at_call 144;go_must (refine (HCC.out _).mono ?_;rintro e w1 ⟨hb,x,rfl,hx,hrx,hbx⟩;have HX:=Ld hx;have HRX:=Ld hrx;have HBV:=Ld hbx;have HB2:=Ld (((Below.refl W0.heap.size W0).drew.trans hb).mono (Nat.le_of_eq HS0.out.symm));have HX2:=Ld (HBX.out _ HB2.out);rcases x with ⟨xk,xb,xn,xf,xt,xA,xc,xl⟩;simp only [VI.val,VI.k,VI.b,VI.n,VI.f,VI.t,VI.A,VI.c,VI.l];clear hx hrx hbx hb))
    | (refine wpList_store_row rfl 54 (.tmp 4) (.tmp 123) rfl w.heap.size (c6 xk xb xn xf xt xA xl.length xc) rfl rfl 54 _ HX2.out.1 (by kernel_rfl) rfl (one6 _ _ _ _ _ _ _ _) ?_))
   refine bodyPost_ret (results_ctt rfl _ _ w.heap.size 54 _ (0,0) _ rfl (setRow_block _ _ _ _ _ _ (HX2.out.1)) Tryz.underlying54 rfl (by kernel_rfl)) rfl ⟨below_setRow (HX2.out.2.2) (Nat.le_refl _) _,?_⟩
   rw [HE.out]
   have hkp : Kept (fun k => k = w.heap.size) w1 (w1.setRow w.heap.size (c6 xk xb xn xf xt xA xl.length xc)):=⟨rfl,rfl,rfl,by simp [World.setRow],fun k _ hk => setRow_other _ _ _ _ hk⟩
   refine ⟨.mk xk xb xn xf xt xA xc xl,rfl,HX.out,RdV.kept HRX.out hkp (HBV.out.mono fun k hk e => ?_),HBV.out.mono fun k hk => ?_⟩
   ·have h1:=HS0.out;have h2 : W0.drew.heap.size = W0.heap.size:=rfl;omega
   ·have h1:=HS0.out;have h2 : W0.drew.heap.size = W0.heap.size:=rfl;omega
end
section
open Go.RowKit
set_option maxHeartbeats 2000000
set_option maxRecDepth 100000
theorem readF_c [Inhabited Thr] (r : Nat) (t : UInt8) (s : List UInt8) (d : Nat) (w : World) (hd : d + (r + 1) = 9) (hl : (t :: s).length ≤ 4096) (ht : t = 32) (h8 : 8 ≤ s.length) :
 Calls Tryz.prog 132 #[.string ⟨(t :: s).toArray⟩,.int .i64 d] w (ReadEnd (redI (r + 1) (t :: s)) w):=by
 have HRD:=Ld (redI_cons r t s)
 obtain ⟨R,hR⟩ : ∃ R,redI (r + 1) (t :: s) = R:=⟨_,rfl⟩
 rw [hR] at HRD ⊢
 have hls : s.length ≤ 4095:=by simpa using hl
 subst ht
 have HE:=Ld (show R = some (.mk 4 false 0 (fltU (numB (s.take 8))) ⟨#[]⟩ [],s.drop 8) by rw [HRD.out,if_neg (by decide),if_neg (by decide),if_neg (by decide),if_neg (by decide),if_pos ⟨rfl,h8⟩])
 have hd8 : d ≤ 8:=by omega
 have HDD:=Ld hd
 clear hR hl hd
 obtain ⟨W0,hW0⟩ : ∃ W0,w.alloc (.cells (c6 0 false 0 0 ⟨#[]⟩ none 0 0) 54) = W0:=⟨_,rfl⟩
 have HW0:=Ld hW0
 have HBX:=Ld (fun W (h : Below (w.heap.size + 1) W0 W) => box_i (hW0 ▸ h))
 have HS0:=Ld (show W0.heap.size = w.heap.size + 1 by rw [← hW0];simp)
 have HR0:=Ld (show W0.heap[w.heap.size]? = some (.cells (c6 0 false 0 0 ⟨#[]⟩ none 0 0) 54 (0,0)) by rw [← hW0];exact heap_alloc_new w _)
 have HB0:=Ld (show Below w.heap.size w W0 by rw [← hW0];exact (Below.refl _ _).alloc (Nat.le_refl _) _)
 clear hW0
 have hi0:=idx0 (32 : UInt8) s
 have hsz:=size_mk ((32 : UInt8) :: s)
 have hszs:=size_mk s
 have hem : ((⟨((32 : UInt8) :: s).toArray⟩ : ByteArray).toList == []) = false:=by rw [ByteArray.toList_eq];rfl
 have hsl : ∀ wx : World,(Instr.slice 9 (.string ⟨((32 : UInt8) :: s).toArray⟩) (some (.int .i64 1)) none none).run Tryz.prog wx = .ok (.string ⟨s.toArray⟩) wx:=fun wx => strS_from ((32 : UInt8) :: s) 1 (by simp) .i64 wx
 go_enter Tryz.func132,Tryz.ntmps132
 go_upto_region 1 with fail
 rw [show w.alloc (.cells #[.int .u8 0,.bool false,.int .i64 0,.float .f64 0,.string ⟨#[]⟩,.slice none 0 0] 54) = W0 from HW0.out]
 go_upto_region 3 with fail
 refine wp_region_sched (S:=fun W => Below W0.heap.size W0 W) [(0,true),(1,true),(2,true),(3,true),(4,true),(5,true),(6,true)] (by kernel_rfl) (by kernel_rfl) (by kernel_rfl) (fun _ _ d _ _ h => by cases d <;> exact h) (Below.refl _ _).drew ?_
 repeat (apply sched_take;(exact rfl);rfl;(intro W hW;go_simp;(try with_reducible rfl));simp only [Act.put,List.setIfInBounds_toArray,List.set_cons_zero,List.set_cons_succ])
 refine sched_done ?_
 have HR1:=Ld (show W0.drew.heap[w.heap.size]? = some (.cells (c6 0 false 0 0 ⟨#[]⟩ none 0 0) 54 (0,0)) from HR0.out)
 have HB1:=Ld (show Below w.heap.size w W0.drew from HB0.out.drew)
 clear hi0 hsl hem hsz
 have HNC:=Ld (fun w => number_l (s.take 8) w (by rw [List.length_take];omega))
 have HNL:=Ld (numB_lt8 (s.take 8) (by rw [List.length_take];omega))
 obtain ⟨u,hu⟩ : ∃ u,numB (s.take 8) = u:=⟨_,rfl⟩
 rw [hu] at HE HNL
 simp only [hu] at HNC
 clear hu
 obtain ⟨z,hz⟩ : ∃ z : Int,(u : Int) = z:=⟨_,rfl⟩
 have HZ:=Ld hz
 rw [hz] at HNC
 clear hz
 have hsl8 : ∀ wx : World,(Instr.slice 9 (.string ⟨s.toArray⟩) none (some (.int .i64 8)) none).run Tryz.prog wx = .ok (.string ⟨(s.take 8).toArray⟩) wx:=fun wx => strS_to s 8 h8 .i64 wx
 have hsd8 : ∀ wx : World,(Instr.slice 9 (.string ⟨s.toArray⟩) (some (.int .i64 8)) none none).run Tryz.prog wx = .ok (.string ⟨(s.drop 8).toArray⟩) wx:=fun wx => strS_from s 8 h8 .i64 wx
 obtain ⟨f,hf⟩ : ∃ f,fltU u = f:=⟨_,rfl⟩
 have HFL:=Ld (show f < 18446744073709551616 by have:=HNL.out;rw [← hf];unfold fltU;split <;> omega)
 have hBX0 : Box w.heap.size 6 54 w W0.drew:=⟨HB1.out,_,HR1.out,rfl⟩
 have HBX0:=Ld hBX0
 clear hBX0
 rw [hf] at HE
 by_cases hu : (9223372036854775808 : Int) ≤ z
 ·have HQ:=Ld (show IntKind.u64.wrap (z - 9223372036854775808) = ((f : Nat) : Int) by
    have h1:=HZ.out;have h2:=HNL.out
    rw [IntWalk.u64_in _ (by omega),← hf,fltU,if_pos (by omega)];omega)
  have HQ2:=Ld (show z - 9223372036854775808 = ((f : Nat) : Int) by
   have h1:=HZ.out;have h2:=HNL.out
   rw [← hf,fltU,if_pos (by omega)];omega)
  clear hf
  go_upto_region 25 with (go_at_call 142;go_must (refine (HNC.out _).mono ?_;rintro e w1 ⟨rfl,rfl⟩))
  try rw [HQ.out]
  try rw [HQ2.out]
  have hfb : ∀ w,(callFunc 141 #[.int .u64 f]).run Tryz.prog w = .ok (.value (.float .f64 f)) w:=fun w => by have:=from_call (f : Int) w;rwa [Int.toNat_natCast] at this
  refine wp_region_sched (S:=Box w.heap.size 6 54 w) [(0,true),(3,true),(4,true),(1,false),(2,true),(5,false),(6,true),(7,true)] (by kernel_rfl) (by kernel_rfl) (by kernel_rfl) (fun _ _ d _ _ h => by cases d <;> exact h) HBX0.out.drew ?_
  repeat (apply sched_take;(exact rfl);rfl;(intro W hW;go_simp;(try with_reducible rfl));simp only [Act.put,List.setIfInBounds_toArray,List.set_cons_zero,List.set_cons_succ])
  apply sched_run;(exact rfl);rfl;intro K hK;go_simp
  refine hK.out _ _ HBX0.out.drew (fun _ => ?_)
  clear hK K
  try simp only [Act.put,List.setIfInBounds_toArray,List.set_cons_zero,List.set_cons_succ]
  repeat (apply sched_take;(exact rfl);rfl;(intro W hW;go_simp;(try with_reducible rfl));simp only [Act.put,List.setIfInBounds_toArray,List.set_cons_zero,List.set_cons_succ])
  apply sched_run;(exact rfl);rfl;intro K hK
  refine wp_store_box HBX0.out.drew 54 (.tmp 4) (.tmp 106) rfl (c6 4 false 0 f ⟨#[]⟩ none 0 0) rfl rfl (by kernel_rfl) rfl (one6 _ _ _ _ _ _ _ _) ?_
  have hB2:=HBX0.out.drew.setRow (c6 4 false 0 f ⟨#[]⟩ none 0 0) rfl
  refine hK.out _ _ hB2 (fun _ => ?_)
  clear hK K
  try simp only [Act.put,List.setIfInBounds_toArray,List.set_cons_zero,List.set_cons_succ]
  repeat (apply sched_take;(exact rfl);rfl;(intro W hW;go_simp;(try with_reducible rfl));simp only [Act.put,List.setIfInBounds_toArray,List.set_cons_zero,List.set_cons_succ])
  refine sched_done ?_
  go_wp2
  refine bodyPost_ret (results_ctt rfl _ _ w.heap.size 54 _ (0,0) _ rfl (setRow_block _ _ _ _ _ _ (show W0.drew.drew.heap[w.heap.size]? = _ from HR1.out)) Tryz.underlying54 rfl (by kernel_rfl)) rfl ⟨hB2.1,?_⟩
  rw [HE.out]
  exact ⟨VI.mk 4 false 0 f ⟨#[]⟩ none 0 [],rfl,by simp [VI.data,VI.dataL],RdV.plain _ _ _ _ _ _ (by decide) (by decide) HFL.out (by decide),BlkV.plain _ _ _ _ _ _⟩
 ·have HQ:=Ld (show bits BinOp.xor IntKind.u64 (if IntKind.u64.signed = true then -1 else IntKind.u64.max) z = ((f : Nat) : Int) by
    have h1:=HZ.out;have h2:=HNL.out
    rw [if_neg (by decide),← h1,show IntKind.u64.max = ((2 ^ 64 - 1 : Nat) : Int) from rfl,bits_xor_u64_nat _ _ (by decide) h2,Lib.xor_ones64 _ h2,← hf,fltU,if_neg (by omega)])
  clear hf
  go_upto_region 25 with (go_at_call 142;go_must (refine (HNC.out _).mono ?_;rintro e w1 ⟨rfl,rfl⟩))
  try rw [HQ.out]
  have hfb : ∀ w,(callFunc 141 #[.int .u64 f]).run Tryz.prog w = .ok (.value (.float .f64 f)) w:=fun w => by have:=from_call (f : Int) w;rwa [Int.toNat_natCast] at this
  refine wp_region_sched (S:=Box w.heap.size 6 54 w) [(0,true),(3,true),(4,true),(1,false),(2,true),(5,false),(6,true),(7,true)] (by kernel_rfl) (by kernel_rfl) (by kernel_rfl) (fun _ _ d _ _ h => by cases d <;> exact h) HBX0.out.drew ?_
  repeat (apply sched_take;(exact rfl);rfl;(intro W hW;go_simp;(try with_reducible rfl));simp only [Act.put,List.setIfInBounds_toArray,List.set_cons_zero,List.set_cons_succ])
  apply sched_run;(exact rfl);rfl;intro K hK;go_simp
  refine hK.out _ _ HBX0.out.drew (fun _ => ?_)
  clear hK K
  try simp only [Act.put,List.setIfInBounds_toArray,List.set_cons_zero,List.set_cons_succ]
  repeat (apply sched_take;(exact rfl);rfl;(intro W hW;go_simp;(try with_reducible rfl));simp only [Act.put,List.setIfInBounds_toArray,List.set_cons_zero,List.set_cons_succ])
  apply sched_run;(exact rfl);rfl;intro K hK
  refine wp_store_box HBX0.out.drew 54 (.tmp 4) (.tmp 106) rfl (c6 4 false 0 f ⟨#[]⟩ none 0 0) rfl rfl (by kernel_rfl) rfl (one6 _ _ _ _ _ _ _ _) ?_
  have hB2:=HBX0.out.drew.setRow (c6 4 false 0 f ⟨#[]⟩ none 0 0) rfl
  refine hK.out _ _ hB2 (fun _ => ?_)
  clear hK K
  try simp only [Act.put,List.setIfInBounds_toArray,List.set_cons_zero,List.set_cons_succ]
  repeat (apply sched_take;(exact rfl);rfl;(intro W hW;go_simp;(try with_reducible rfl));simp only [Act.put,List.setIfInBounds_toArray,List.set_cons_zero,List.set_cons_succ])
  refine sched_done ?_
  go_wp2
  refine bodyPost_ret (results_ctt rfl _ _ w.heap.size 54 _ (0,0) _ rfl (setRow_block _ _ _ _ _ _ (show W0.drew.drew.heap[w.heap.size]? = _ from HR1.out)) Tryz.underlying54 rfl (by kernel_rfl)) rfl ⟨hB2.1,?_⟩
  rw [HE.out]
  exact ⟨VI.mk 4 false 0 f ⟨#[]⟩ none 0 [],rfl,by simp [VI.data,VI.dataL],RdV.plain _ _ _ _ _ _ (by decide) (by decide) HFL.out (by decide),BlkV.plain _ _ _ _ _ _⟩
end
section
open Go.RowKit
set_option maxHeartbeats 2000000
set_option maxRecDepth 100000
theorem readN_c [Inhabited Thr] (r : Nat) (t : UInt8) (s : List UInt8) (d : Nat) (w : World) (hd : d + (r + 1) = 9) (hl : (t :: s).length ≤ 4096) (h1 : t ≠ 1) (h2 : t ≠ 2) (h3 : t ≠ 3) (h4 : ¬ (12 ≤ t.toNat ∧ t.toNat ≤ 28)) (h5 : ¬ (t = 32 ∧ 8 ≤ s.length)) (h6 : t ≠ 36) (h7 : t ≠ 40) :
 Calls Tryz.prog 132 #[.string ⟨(t :: s).toArray⟩,.int .i64 d] w (ReadEnd (redI (r + 1) (t :: s)) w):=by
 have HRD:=Ld (redI_cons r t s)
 obtain ⟨R,hR⟩ : ∃ R,redI (r + 1) (t :: s) = R:=⟨_,rfl⟩
 rw [hR] at HRD ⊢
 have hls : s.length ≤ 4095:=by simpa using hl
 have hwt : IntKind.i64.wrap (t.toNat : Int) = t.toNat:=IntWalk.i64_in _ (by have:=UInt8.toNat_lt t;omega)
 have HE:=Ld (show R = none by rw [HRD.out,if_neg h1,if_neg h2,if_neg h3,if_neg h4,if_neg h5,if_neg h6,if_neg h7])
 have e1 : ((t.toNat : Int) == 1) = false:=u8_neq h1
 have e2 : ((t.toNat : Int) == 2) = false:=u8_neq h2
 have e3 : ((t.toNat : Int) == 3) = false:=u8_neq h3
 have e6 : ((t.toNat : Int) == 36) = false:=u8_neq h6
 have e7 : ((t.toNat : Int) == 40) = false:=u8_neq h7
 have e4 : t.toNat < 12 ∨ 28 < t.toNat:=by omega
 have e5 : ((t.toNat : Int) == 32) = false ∨ (((t.toNat : Int) == 32) = true ∧ s.length < 8):=by
  by_cases h : t = 32
  ·exact .inr ⟨by rw [h];rfl,Nat.lt_of_not_le (fun h' => h5 ⟨h,h'⟩)⟩
  ·exact .inl (u8_neq h)
 have hd8 : d ≤ 8:=by omega
 have HDD:=Ld hd
 clear hR hl hd
 obtain ⟨W0,hW0⟩ : ∃ W0,w.alloc (.cells (c6 0 false 0 0 ⟨#[]⟩ none 0 0) 54) = W0:=⟨_,rfl⟩
 have HW0:=Ld hW0
 have HBX:=Ld (fun W (h : Below (w.heap.size + 1) W0 W) => box_i (hW0 ▸ h))
 have HS0:=Ld (show W0.heap.size = w.heap.size + 1 by rw [← hW0];simp)
 have HR0:=Ld (show W0.heap[w.heap.size]? = some (.cells (c6 0 false 0 0 ⟨#[]⟩ none 0 0) 54 (0,0)) by rw [← hW0];exact heap_alloc_new w _)
 have HB0:=Ld (show Below w.heap.size w W0 by rw [← hW0];exact (Below.refl _ _).alloc (Nat.le_refl _) _)
 clear hW0
 have hi0:=idx0 t s
 have hsz:=size_mk (t :: s)
 have hszs:=size_mk s
 have hem : ((⟨(t :: s).toArray⟩ : ByteArray).toList == []) = false:=by rw [ByteArray.toList_eq];rfl
 have hsl : ∀ wx : World,(Instr.slice 9 (.string ⟨(t :: s).toArray⟩) (some (.int .i64 1)) none none).run Tryz.prog wx = .ok (.string ⟨s.toArray⟩) wx:=fun wx => strS_from (t :: s) 1 (by simp) .i64 wx
 clear h1 h2 h3 h4 h5 h6 h7
 go_enter Tryz.func132,Tryz.ntmps132
 go_upto_region 1 with fail
 rw [show w.alloc (.cells #[.int .u8 0,.bool false,.int .i64 0,.float .f64 0,.string ⟨#[]⟩,.slice none 0 0] 54) = W0 from HW0.out]
 go_upto_region 3 with fail
 refine wp_region_sched (S:=fun W => Below W0.heap.size W0 W) [(0,true),(1,true),(2,true),(3,true),(4,true),(5,true),(6,true)] (by kernel_rfl) (by kernel_rfl) (by kernel_rfl) (fun _ _ d _ _ h => by cases d <;> exact h) (Below.refl _ _).drew ?_
 repeat (apply sched_take;(exact rfl);rfl;(intro W hW;go_simp;(try with_reducible rfl));simp only [Act.put,List.setIfInBounds_toArray,List.set_cons_zero,List.set_cons_succ])
 refine sched_done ?_
 have HR1:=Ld (show W0.drew.heap[w.heap.size]? = some (.cells (c6 0 false 0 0 ⟨#[]⟩ none 0 0) 54 (0,0)) from HR0.out)
 have HB1:=Ld (show Below w.heap.size w W0.drew from HB0.out.drew)
 clear hi0 hsl hem hsz
 rcases e4 with e4 | e4
 ·have e5 : ((t.toNat : Int) == 32) = false:=by rw [beq_eq_false_iff_ne];omega
  go_wp2_with (refine wpList_store_row rfl 54 (.tmp 4) (.tmp 126) rfl w.heap.size (c6 0 false 0 0 ⟨#[]⟩ none 0 0) rfl rfl 54 _ HR1.out (by kernel_rfl) rfl (one6 _ _ _ _ _ _ _ _) ?_)
  refine bodyPost_ret (results_ctt rfl _ _ w.heap.size 54 _ (0,0) _ rfl (setRow_block _ _ _ _ _ _ (HR1.out)) Tryz.underlying54 rfl (by kernel_rfl)) rfl ⟨below_setRow (HB1.out) (Nat.le_refl _) _,?_⟩
  rw [HE.out]
  rfl
 ·have e9 : (12 : Int) ≤ (t.toNat : Int):=by omega
  have e10 : ¬ (t.toNat : Int) ≤ 28:=by omega
  rcases e5 with e5 | ⟨e5,e8⟩
  all_goals
   go_wp2_with (refine wpList_store_row rfl 54 (.tmp 4) (.tmp 126) rfl w.heap.size (c6 0 false 0 0 ⟨#[]⟩ none 0 0) rfl rfl 54 _ HR1.out (by kernel_rfl) rfl (one6 _ _ _ _ _ _ _ _) ?_)
   refine bodyPost_ret (results_ctt rfl _ _ w.heap.size 54 _ (0,0) _ rfl (setRow_block _ _ _ _ _ _ (HR1.out)) Tryz.underlying54 rfl (by kernel_rfl)) rfl ⟨below_setRow (HB1.out) (Nat.le_refl _) _,?_⟩
   rw [HE.out]
   rfl
end
end Go.Proofs.YtonjgedhmmnolaaGreatDoor
