import Derived.Test.YtonjgedhmmnolaaGreatDoorZY7
namespace Go.Proofs.YtonjgedhmmnolaaGreatDoor
section
open Go.RowKit
set_option maxHeartbeats 2000000
set_option maxRecDepth 100000
theorem readI12_c [Inhabited Thr] (r : Nat) (t : UInt8) (s : List UInt8) (d : Nat) (w : World) (hd : d + (r + 1) = 9) (hl : (t :: s).length ≤ 4096) (ht : t = 12) :
 Calls Tryz.prog 132 #[.string ⟨(t :: s).toArray⟩,.int .i64 d] w (ReadEnd (redI (r + 1) (t :: s)) w):=by
 have HRD:=Ld (redI_cons r t s)
 obtain ⟨R,hR⟩ : ∃ R,redI (r + 1) (t :: s) = R:=⟨_,rfl⟩
 rw [hR] at HRD ⊢
 have hls : s.length ≤ 4095:=by simpa using hl
 subst ht
 have HE:=Ld (show R = redW (-8) s by rw [HRD.out];rfl)
 have hd8 : d ≤ 8:=by omega
 have HDD:=Ld hd
 clear hR hl hd
 obtain ⟨W0,hW0⟩ : ∃ W0,w.alloc (.cells (c6 0 false 0 0 ⟨#[]⟩ none 0 0) 54) = W0:=⟨_,rfl⟩
 have HW0:=Ld hW0
 have HBX:=Ld (fun W (h : Below (w.heap.size + 1) W0 W) => box_i (hW0 ▸ h))
 have HS0:=Ld (show W0.heap.size = w.heap.size + 1 by rw [← hW0];simp)
 have HR0:=Ld (show W0.heap[w.heap.size]? = some (.cells (c6 0 false 0 0 ⟨#[]⟩ none 0 0) 54 (0,0)) by rw [← hW0];exact heap_alloc_new w _)
 have HB0:=Ld (show Below w.heap.size w W0 by rw [← hW0];exact (Below.refl _ _).alloc (Nat.le_refl _) _)
 clear hW0
 have hi0:=idx0 (12 : UInt8) s
 have hsz:=size_mk ((12 : UInt8) :: s)
 have hszs:=size_mk s
 have hem : ((⟨((12 : UInt8) :: s).toArray⟩ : ByteArray).toList == []) = false:=by rw [ByteArray.toList_eq];rfl
 have hsl : ∀ wx : World,(Instr.slice 9 (.string ⟨((12 : UInt8) :: s).toArray⟩) (some (.int .i64 1)) none none).run Tryz.prog wx = .ok (.string ⟨s.toArray⟩) wx:=fun wx => strS_from ((12 : UInt8) :: s) 1 (by simp) .i64 wx
 go_enter Tryz.func132,Tryz.ntmps132
 go_upto_region 1 with fail
 rw [show w.alloc (.cells #[.int .u8 0,.bool false,.int .i64 0,.float .f64 0,.string ⟨#[]⟩,.slice none 0 0] 54) = W0 from HW0.out]
 go_upto_region 3 with fail
 refine wp_region_sched (S:=fun W => Below W0.heap.size W0 W) [(0,true),(1,true),(2,true),(3,true),(4,true),(5,true),(6,true)] (by kernel_rfl) (by kernel_rfl) (by kernel_rfl) (fun _ _ d _ _ h => by cases d <;> exact h) (Below.refl _ _).drew ?_
 repeat (apply sched_take;(exact rfl);rfl;(intro W hW;go_simp;(try with_reducible rfl));simp only [Act.put,List.setIfInBounds_toArray,List.set_cons_zero,List.set_cons_succ])
 refine sched_done ?_
 have HR1:=Ld (show W0.drew.heap[w.heap.size]? = some (.cells (c6 0 false 0 0 ⟨#[]⟩ none 0 0) 54 (0,0)) from HR0.out)
 have HB1:=Ld (show Below w.heap.size w W0.drew from HB0.out.drew)
 clear hi0 hsl hem hsz
 by_cases hs : s.length < 8
 ·have HN:=Ld (show R = none by rw [HE.out,redW,if_pos (show s.length < Int.natAbs (-8) from hs)])
  go_wp2_with (refine wpList_store_row rfl 54 (.tmp 4) (.tmp 56) rfl w.heap.size (c6 0 false 0 0 ⟨#[]⟩ none 0 0) rfl rfl 54 _ HR1.out (by kernel_rfl) rfl (one6 _ _ _ _ _ _ _ _) ?_)
  refine bodyPost_ret (results_ctt rfl _ _ w.heap.size 54 _ (0,0) _ rfl (setRow_block _ _ _ _ _ _ (HR1.out)) Tryz.underlying54 rfl (by kernel_rfl)) rfl ⟨below_setRow (HB1.out) (Nat.le_refl _) _,?_⟩
  rw [HN.out]
  rfl
 ·have HN:=Ld (show R = some (.mk 3 false (valW (-8) (numB (s.take 8))) 0 ⟨#[]⟩ [],s.drop 8) by rw [HE.out,redW,if_neg (show ¬ s.length < Int.natAbs (-8) from hs)];rfl)
  have HNC:=Ld (fun w => number_l (s.take 8) w (by rw [List.length_take];omega))
  have HNL:=Ld (show numB (s.take 8) < 256 ^ 8 from numB_take_lt s (Nat.le_refl _))
  obtain ⟨u,hu⟩ : ∃ u,numB (s.take 8) = u:=⟨_,rfl⟩
  rw [hu] at HN HNL
  simp only [hu] at HNC
  clear hu
  obtain ⟨z,hz⟩ : ∃ z : Int,(u : Int) = z:=⟨_,rfl⟩
  have HZ:=Ld hz
  rw [hz] at HNC
  clear hz
  obtain ⟨v,hv⟩ : ∃ v,valW (-8) u = v:=⟨_,rfl⟩
  have HVR:=Ld (show -9223372036854775808 ≤ v ∧ v ≤ 9223372036854775807 by rw [← hv];exact valW_range _ _)
  rw [hv] at HN
  have hsl8 : ∀ wx : World,(Instr.slice 9 (.string ⟨s.toArray⟩) none (some (.int .i64 8)) none).run Tryz.prog wx = .ok (.string ⟨(s.take 8).toArray⟩) wx:=fun wx => strS_to s 8 (by omega) .i64 wx
  have hsd8 : ∀ wx : World,(Instr.slice 9 (.string ⟨s.toArray⟩) (some (.int .i64 8)) none none).run Tryz.prog wx = .ok (.string ⟨(s.drop 8).toArray⟩) wx:=fun wx => strS_from s 8 (by omega) .i64 wx
  obtain ⟨y,hy⟩ : ∃ y,IntKind.u64.wrap (z + 1) = y:=⟨_,rfl⟩
  have HQ:=Ld (show y = (z + 1) % 18446744073709551616 by rw [← hy];simp [IntKind.wrap,IntKind.bits,IntKind.signed])
  have hv1 : IntKind.i64.wrap y = v:=by
   have h1:=HZ.out;have h2:=HQ.out;have h3:=HNL.out
   rw [← hv,valW,if_pos (by decide),show (256 : Int) ^ Int.natAbs (-8) = 18446744073709551616 from rfl,IntKind.wrap_i64,IntKind.wrap_i64]
   (try unfold wrap64)
   omega
  have hv2 : wrap64 y = v:=by rw [← hv1,IntKind.wrap_i64];(try unfold wrap64);omega
  clear hv
  have HBX0:=Ld (show Box w.heap.size 6 54 w W0.drew from ⟨HB1.out,_,HR1.out,rfl⟩)
  go_upto_region 19 with (go_at_call 142;go_must (refine (HNC.out _).mono ?_;rintro e w1 ⟨rfl,rfl⟩))
  refine wp_region_sched (S:=Box w.heap.size 6 54 w) [(0,true),(1,true),(2,true),(3,true),(4,true),(5,true),(6,false),(7,true),(8,true)] (by kernel_rfl) (by kernel_rfl) (by kernel_rfl) (fun _ _ d _ _ h => by cases d <;> exact h) HBX0.out.drew ?_
  repeat (apply sched_take;(exact rfl);rfl;(intro W hW;go_simp;(try with_reducible rfl));simp only [Act.put,List.setIfInBounds_toArray,List.set_cons_zero,List.set_cons_succ])
  apply sched_run;(exact rfl);rfl;intro K hK
  refine wp_store_box HBX0.out.drew 54 (.tmp 4) (.tmp 83) rfl (c6 3 false v 0 ⟨#[]⟩ none 0 0) rfl rfl (by kernel_rfl) rfl (one6 _ _ _ _ _ _ _ _) ?_
  have hB2:=HBX0.out.drew.setRow (c6 3 false v 0 ⟨#[]⟩ none 0 0) rfl
  refine hK.out _ _ hB2 (fun _ => ?_)
  clear hK K
  try simp only [Act.put,List.setIfInBounds_toArray,List.set_cons_zero,List.set_cons_succ]
  repeat (apply sched_take;(exact rfl);rfl;(intro W hW;go_simp;(try with_reducible rfl));simp only [Act.put,List.setIfInBounds_toArray,List.set_cons_zero,List.set_cons_succ])
  refine sched_done ?_
  go_wp2
  refine bodyPost_ret (results_ctt rfl _ _ w.heap.size 54 _ (0,0) _ rfl (setRow_block _ _ _ _ _ _ (show W0.drew.drew.heap[w.heap.size]? = _ from HR1.out)) Tryz.underlying54 rfl (by kernel_rfl)) rfl ⟨hB2.1,?_⟩
  rw [HN.out]
  exact ⟨VI.mk 3 false v 0 ⟨#[]⟩ none 0 [],rfl,by simp [VI.data,VI.dataL],RdV.plain _ _ _ _ _ _ (by decide) (by decide) (by decide) HVR.out,BlkV.plain _ _ _ _ _ _⟩
theorem readI13_c [Inhabited Thr] (r : Nat) (t : UInt8) (s : List UInt8) (d : Nat) (w : World) (hd : d + (r + 1) = 9) (hl : (t :: s).length ≤ 4096) (ht : t = 13) :
 Calls Tryz.prog 132 #[.string ⟨(t :: s).toArray⟩,.int .i64 d] w (ReadEnd (redI (r + 1) (t :: s)) w):=by
 have HRD:=Ld (redI_cons r t s)
 obtain ⟨R,hR⟩ : ∃ R,redI (r + 1) (t :: s) = R:=⟨_,rfl⟩
 rw [hR] at HRD ⊢
 have hls : s.length ≤ 4095:=by simpa using hl
 subst ht
 have HE:=Ld (show R = redW (-7) s by rw [HRD.out];rfl)
 have hd8 : d ≤ 8:=by omega
 have HDD:=Ld hd
 clear hR hl hd
 obtain ⟨W0,hW0⟩ : ∃ W0,w.alloc (.cells (c6 0 false 0 0 ⟨#[]⟩ none 0 0) 54) = W0:=⟨_,rfl⟩
 have HW0:=Ld hW0
 have HBX:=Ld (fun W (h : Below (w.heap.size + 1) W0 W) => box_i (hW0 ▸ h))
 have HS0:=Ld (show W0.heap.size = w.heap.size + 1 by rw [← hW0];simp)
 have HR0:=Ld (show W0.heap[w.heap.size]? = some (.cells (c6 0 false 0 0 ⟨#[]⟩ none 0 0) 54 (0,0)) by rw [← hW0];exact heap_alloc_new w _)
 have HB0:=Ld (show Below w.heap.size w W0 by rw [← hW0];exact (Below.refl _ _).alloc (Nat.le_refl _) _)
 clear hW0
 have hi0:=idx0 (13 : UInt8) s
 have hsz:=size_mk ((13 : UInt8) :: s)
 have hszs:=size_mk s
 have hem : ((⟨((13 : UInt8) :: s).toArray⟩ : ByteArray).toList == []) = false:=by rw [ByteArray.toList_eq];rfl
 have hsl : ∀ wx : World,(Instr.slice 9 (.string ⟨((13 : UInt8) :: s).toArray⟩) (some (.int .i64 1)) none none).run Tryz.prog wx = .ok (.string ⟨s.toArray⟩) wx:=fun wx => strS_from ((13 : UInt8) :: s) 1 (by simp) .i64 wx
 go_enter Tryz.func132,Tryz.ntmps132
 go_upto_region 1 with fail
 rw [show w.alloc (.cells #[.int .u8 0,.bool false,.int .i64 0,.float .f64 0,.string ⟨#[]⟩,.slice none 0 0] 54) = W0 from HW0.out]
 go_upto_region 3 with fail
 refine wp_region_sched (S:=fun W => Below W0.heap.size W0 W) [(0,true),(1,true),(2,true),(3,true),(4,true),(5,true),(6,true)] (by kernel_rfl) (by kernel_rfl) (by kernel_rfl) (fun _ _ d _ _ h => by cases d <;> exact h) (Below.refl _ _).drew ?_
 repeat (apply sched_take;(exact rfl);rfl;(intro W hW;go_simp;(try with_reducible rfl));simp only [Act.put,List.setIfInBounds_toArray,List.set_cons_zero,List.set_cons_succ])
 refine sched_done ?_
 have HR1:=Ld (show W0.drew.heap[w.heap.size]? = some (.cells (c6 0 false 0 0 ⟨#[]⟩ none 0 0) 54 (0,0)) from HR0.out)
 have HB1:=Ld (show Below w.heap.size w W0.drew from HB0.out.drew)
 clear hi0 hsl hem hsz
 by_cases hs : s.length < 7
 ·have HN:=Ld (show R = none by rw [HE.out,redW,if_pos (show s.length < Int.natAbs (-7) from hs)])
  go_wp2_with (refine wpList_store_row rfl 54 (.tmp 4) (.tmp 56) rfl w.heap.size (c6 0 false 0 0 ⟨#[]⟩ none 0 0) rfl rfl 54 _ HR1.out (by kernel_rfl) rfl (one6 _ _ _ _ _ _ _ _) ?_)
  refine bodyPost_ret (results_ctt rfl _ _ w.heap.size 54 _ (0,0) _ rfl (setRow_block _ _ _ _ _ _ (HR1.out)) Tryz.underlying54 rfl (by kernel_rfl)) rfl ⟨below_setRow (HB1.out) (Nat.le_refl _) _,?_⟩
  rw [HN.out]
  rfl
 ·have HN:=Ld (show R = some (.mk 3 false (valW (-7) (numB (s.take 7))) 0 ⟨#[]⟩ [],s.drop 7) by rw [HE.out,redW,if_neg (show ¬ s.length < Int.natAbs (-7) from hs)];rfl)
  have HNC:=Ld (fun w => number_l (s.take 7) w (by rw [List.length_take];omega))
  have HNL:=Ld (show numB (s.take 7) < 256 ^ 7 from numB_take_lt s (Nat.le_refl _))
  obtain ⟨u,hu⟩ : ∃ u,numB (s.take 7) = u:=⟨_,rfl⟩
  rw [hu] at HN HNL
  simp only [hu] at HNC
  clear hu
  obtain ⟨z,hz⟩ : ∃ z : Int,(u : Int) = z:=⟨_,rfl⟩
  have HZ:=Ld hz
  rw [hz] at HNC
  clear hz
  obtain ⟨v,hv⟩ : ∃ v,valW (-7) u = v:=⟨_,rfl⟩
  have HVR:=Ld (show -9223372036854775808 ≤ v ∧ v ≤ 9223372036854775807 by rw [← hv];exact valW_range _ _)
  rw [hv] at HN
  have hsl8 : ∀ wx : World,(Instr.slice 9 (.string ⟨s.toArray⟩) none (some (.int .i64 7)) none).run Tryz.prog wx = .ok (.string ⟨(s.take 7).toArray⟩) wx:=fun wx => strS_to s 7 (by omega) .i64 wx
  have hsd8 : ∀ wx : World,(Instr.slice 9 (.string ⟨s.toArray⟩) (some (.int .i64 7)) none none).run Tryz.prog wx = .ok (.string ⟨(s.drop 7).toArray⟩) wx:=fun wx => strS_from s 7 (by omega) .i64 wx
  obtain ⟨y,hy⟩ : ∃ y,IntKind.u64.wrap (z - 72057594037927935) = y:=⟨_,rfl⟩
  have HQ:=Ld (show y = (z - 72057594037927935) % 18446744073709551616 by rw [← hy];simp [IntKind.wrap,IntKind.bits,IntKind.signed])
  have hv1 : IntKind.i64.wrap y = v:=by
   have h1:=HZ.out;have h2:=HQ.out;have h3:=HNL.out
   rw [← hv,valW,if_pos (by decide),show (256 : Int) ^ Int.natAbs (-7) = 72057594037927936 from rfl,IntKind.wrap_i64,IntKind.wrap_i64]
   (try unfold wrap64)
   omega
  have hv2 : wrap64 y = v:=by rw [← hv1,IntKind.wrap_i64];(try unfold wrap64);omega
  clear hv
  have HBX0:=Ld (show Box w.heap.size 6 54 w W0.drew from ⟨HB1.out,_,HR1.out,rfl⟩)
  go_upto_region 19 with (go_at_call 142;go_must (refine (HNC.out _).mono ?_;rintro e w1 ⟨rfl,rfl⟩))
  refine wp_region_sched (S:=Box w.heap.size 6 54 w) [(0,true),(1,true),(2,true),(3,true),(4,true),(5,true),(6,false),(7,true),(8,true)] (by kernel_rfl) (by kernel_rfl) (by kernel_rfl) (fun _ _ d _ _ h => by cases d <;> exact h) HBX0.out.drew ?_
  repeat (apply sched_take;(exact rfl);rfl;(intro W hW;go_simp;(try with_reducible rfl));simp only [Act.put,List.setIfInBounds_toArray,List.set_cons_zero,List.set_cons_succ])
  apply sched_run;(exact rfl);rfl;intro K hK
  refine wp_store_box HBX0.out.drew 54 (.tmp 4) (.tmp 83) rfl (c6 3 false v 0 ⟨#[]⟩ none 0 0) rfl rfl (by kernel_rfl) rfl (one6 _ _ _ _ _ _ _ _) ?_
  have hB2:=HBX0.out.drew.setRow (c6 3 false v 0 ⟨#[]⟩ none 0 0) rfl
  refine hK.out _ _ hB2 (fun _ => ?_)
  clear hK K
  try simp only [Act.put,List.setIfInBounds_toArray,List.set_cons_zero,List.set_cons_succ]
  repeat (apply sched_take;(exact rfl);rfl;(intro W hW;go_simp;(try with_reducible rfl));simp only [Act.put,List.setIfInBounds_toArray,List.set_cons_zero,List.set_cons_succ])
  refine sched_done ?_
  go_wp2
  refine bodyPost_ret (results_ctt rfl _ _ w.heap.size 54 _ (0,0) _ rfl (setRow_block _ _ _ _ _ _ (show W0.drew.drew.heap[w.heap.size]? = _ from HR1.out)) Tryz.underlying54 rfl (by kernel_rfl)) rfl ⟨hB2.1,?_⟩
  rw [HN.out]
  exact ⟨VI.mk 3 false v 0 ⟨#[]⟩ none 0 [],rfl,by simp [VI.data,VI.dataL],RdV.plain _ _ _ _ _ _ (by decide) (by decide) (by decide) HVR.out,BlkV.plain _ _ _ _ _ _⟩
theorem readI14_c [Inhabited Thr] (r : Nat) (t : UInt8) (s : List UInt8) (d : Nat) (w : World) (hd : d + (r + 1) = 9) (hl : (t :: s).length ≤ 4096) (ht : t = 14) :
 Calls Tryz.prog 132 #[.string ⟨(t :: s).toArray⟩,.int .i64 d] w (ReadEnd (redI (r + 1) (t :: s)) w):=by
 have HRD:=Ld (redI_cons r t s)
 obtain ⟨R,hR⟩ : ∃ R,redI (r + 1) (t :: s) = R:=⟨_,rfl⟩
 rw [hR] at HRD ⊢
 have hls : s.length ≤ 4095:=by simpa using hl
 subst ht
 have HE:=Ld (show R = redW (-6) s by rw [HRD.out];rfl)
 have hd8 : d ≤ 8:=by omega
 have HDD:=Ld hd
 clear hR hl hd
 obtain ⟨W0,hW0⟩ : ∃ W0,w.alloc (.cells (c6 0 false 0 0 ⟨#[]⟩ none 0 0) 54) = W0:=⟨_,rfl⟩
 have HW0:=Ld hW0
 have HBX:=Ld (fun W (h : Below (w.heap.size + 1) W0 W) => box_i (hW0 ▸ h))
 have HS0:=Ld (show W0.heap.size = w.heap.size + 1 by rw [← hW0];simp)
 have HR0:=Ld (show W0.heap[w.heap.size]? = some (.cells (c6 0 false 0 0 ⟨#[]⟩ none 0 0) 54 (0,0)) by rw [← hW0];exact heap_alloc_new w _)
 have HB0:=Ld (show Below w.heap.size w W0 by rw [← hW0];exact (Below.refl _ _).alloc (Nat.le_refl _) _)
 clear hW0
 have hi0:=idx0 (14 : UInt8) s
 have hsz:=size_mk ((14 : UInt8) :: s)
 have hszs:=size_mk s
 have hem : ((⟨((14 : UInt8) :: s).toArray⟩ : ByteArray).toList == []) = false:=by rw [ByteArray.toList_eq];rfl
 have hsl : ∀ wx : World,(Instr.slice 9 (.string ⟨((14 : UInt8) :: s).toArray⟩) (some (.int .i64 1)) none none).run Tryz.prog wx = .ok (.string ⟨s.toArray⟩) wx:=fun wx => strS_from ((14 : UInt8) :: s) 1 (by simp) .i64 wx
 go_enter Tryz.func132,Tryz.ntmps132
 go_upto_region 1 with fail
 rw [show w.alloc (.cells #[.int .u8 0,.bool false,.int .i64 0,.float .f64 0,.string ⟨#[]⟩,.slice none 0 0] 54) = W0 from HW0.out]
 go_upto_region 3 with fail
 refine wp_region_sched (S:=fun W => Below W0.heap.size W0 W) [(0,true),(1,true),(2,true),(3,true),(4,true),(5,true),(6,true)] (by kernel_rfl) (by kernel_rfl) (by kernel_rfl) (fun _ _ d _ _ h => by cases d <;> exact h) (Below.refl _ _).drew ?_
 repeat (apply sched_take;(exact rfl);rfl;(intro W hW;go_simp;(try with_reducible rfl));simp only [Act.put,List.setIfInBounds_toArray,List.set_cons_zero,List.set_cons_succ])
 refine sched_done ?_
 have HR1:=Ld (show W0.drew.heap[w.heap.size]? = some (.cells (c6 0 false 0 0 ⟨#[]⟩ none 0 0) 54 (0,0)) from HR0.out)
 have HB1:=Ld (show Below w.heap.size w W0.drew from HB0.out.drew)
 clear hi0 hsl hem hsz
 by_cases hs : s.length < 6
 ·have HN:=Ld (show R = none by rw [HE.out,redW,if_pos (show s.length < Int.natAbs (-6) from hs)])
  go_wp2_with (refine wpList_store_row rfl 54 (.tmp 4) (.tmp 56) rfl w.heap.size (c6 0 false 0 0 ⟨#[]⟩ none 0 0) rfl rfl 54 _ HR1.out (by kernel_rfl) rfl (one6 _ _ _ _ _ _ _ _) ?_)
  refine bodyPost_ret (results_ctt rfl _ _ w.heap.size 54 _ (0,0) _ rfl (setRow_block _ _ _ _ _ _ (HR1.out)) Tryz.underlying54 rfl (by kernel_rfl)) rfl ⟨below_setRow (HB1.out) (Nat.le_refl _) _,?_⟩
  rw [HN.out]
  rfl
 ·have HN:=Ld (show R = some (.mk 3 false (valW (-6) (numB (s.take 6))) 0 ⟨#[]⟩ [],s.drop 6) by rw [HE.out,redW,if_neg (show ¬ s.length < Int.natAbs (-6) from hs)];rfl)
  have HNC:=Ld (fun w => number_l (s.take 6) w (by rw [List.length_take];omega))
  have HNL:=Ld (show numB (s.take 6) < 256 ^ 6 from numB_take_lt s (Nat.le_refl _))
  obtain ⟨u,hu⟩ : ∃ u,numB (s.take 6) = u:=⟨_,rfl⟩
  rw [hu] at HN HNL
  simp only [hu] at HNC
  clear hu
  obtain ⟨z,hz⟩ : ∃ z : Int,(u : Int) = z:=⟨_,rfl⟩
  have HZ:=Ld hz
  rw [hz] at HNC
  clear hz
  obtain ⟨v,hv⟩ : ∃ v,valW (-6) u = v:=⟨_,rfl⟩
  have HVR:=Ld (show -9223372036854775808 ≤ v ∧ v ≤ 9223372036854775807 by rw [← hv];exact valW_range _ _)
  rw [hv] at HN
  have hsl8 : ∀ wx : World,(Instr.slice 9 (.string ⟨s.toArray⟩) none (some (.int .i64 6)) none).run Tryz.prog wx = .ok (.string ⟨(s.take 6).toArray⟩) wx:=fun wx => strS_to s 6 (by omega) .i64 wx
  have hsd8 : ∀ wx : World,(Instr.slice 9 (.string ⟨s.toArray⟩) (some (.int .i64 6)) none none).run Tryz.prog wx = .ok (.string ⟨(s.drop 6).toArray⟩) wx:=fun wx => strS_from s 6 (by omega) .i64 wx
  obtain ⟨y,hy⟩ : ∃ y,IntKind.u64.wrap (z - 281474976710655) = y:=⟨_,rfl⟩
  have HQ:=Ld (show y = (z - 281474976710655) % 18446744073709551616 by rw [← hy];simp [IntKind.wrap,IntKind.bits,IntKind.signed])
  have hv1 : IntKind.i64.wrap y = v:=by
   have h1:=HZ.out;have h2:=HQ.out;have h3:=HNL.out
   rw [← hv,valW,if_pos (by decide),show (256 : Int) ^ Int.natAbs (-6) = 281474976710656 from rfl,IntKind.wrap_i64,IntKind.wrap_i64]
   (try unfold wrap64)
   omega
  have hv2 : wrap64 y = v:=by rw [← hv1,IntKind.wrap_i64];(try unfold wrap64);omega
  clear hv
  have HBX0:=Ld (show Box w.heap.size 6 54 w W0.drew from ⟨HB1.out,_,HR1.out,rfl⟩)
  go_upto_region 19 with (go_at_call 142;go_must (refine (HNC.out _).mono ?_;rintro e w1 ⟨rfl,rfl⟩))
  refine wp_region_sched (S:=Box w.heap.size 6 54 w) [(0,true),(1,true),(2,true),(3,true),(4,true),(5,true),(6,false),(7,true),(8,true)] (by kernel_rfl) (by kernel_rfl) (by kernel_rfl) (fun _ _ d _ _ h => by cases d <;> exact h) HBX0.out.drew ?_
  repeat (apply sched_take;(exact rfl);rfl;(intro W hW;go_simp;(try with_reducible rfl));simp only [Act.put,List.setIfInBounds_toArray,List.set_cons_zero,List.set_cons_succ])
  apply sched_run;(exact rfl);rfl;intro K hK
  refine wp_store_box HBX0.out.drew 54 (.tmp 4) (.tmp 83) rfl (c6 3 false v 0 ⟨#[]⟩ none 0 0) rfl rfl (by kernel_rfl) rfl (one6 _ _ _ _ _ _ _ _) ?_
  have hB2:=HBX0.out.drew.setRow (c6 3 false v 0 ⟨#[]⟩ none 0 0) rfl
  refine hK.out _ _ hB2 (fun _ => ?_)
  clear hK K
  try simp only [Act.put,List.setIfInBounds_toArray,List.set_cons_zero,List.set_cons_succ]
  repeat (apply sched_take;(exact rfl);rfl;(intro W hW;go_simp;(try with_reducible rfl));simp only [Act.put,List.setIfInBounds_toArray,List.set_cons_zero,List.set_cons_succ])
  refine sched_done ?_
  go_wp2
  refine bodyPost_ret (results_ctt rfl _ _ w.heap.size 54 _ (0,0) _ rfl (setRow_block _ _ _ _ _ _ (show W0.drew.drew.heap[w.heap.size]? = _ from HR1.out)) Tryz.underlying54 rfl (by kernel_rfl)) rfl ⟨hB2.1,?_⟩
  rw [HN.out]
  exact ⟨VI.mk 3 false v 0 ⟨#[]⟩ none 0 [],rfl,by simp [VI.data,VI.dataL],RdV.plain _ _ _ _ _ _ (by decide) (by decide) (by decide) HVR.out,BlkV.plain _ _ _ _ _ _⟩
theorem readI15_c [Inhabited Thr] (r : Nat) (t : UInt8) (s : List UInt8) (d : Nat) (w : World) (hd : d + (r + 1) = 9) (hl : (t :: s).length ≤ 4096) (ht : t = 15) :
 Calls Tryz.prog 132 #[.string ⟨(t :: s).toArray⟩,.int .i64 d] w (ReadEnd (redI (r + 1) (t :: s)) w):=by
 have HRD:=Ld (redI_cons r t s)
 obtain ⟨R,hR⟩ : ∃ R,redI (r + 1) (t :: s) = R:=⟨_,rfl⟩
 rw [hR] at HRD ⊢
 have hls : s.length ≤ 4095:=by simpa using hl
 subst ht
 have HE:=Ld (show R = redW (-5) s by rw [HRD.out];rfl)
 have hd8 : d ≤ 8:=by omega
 have HDD:=Ld hd
 clear hR hl hd
 obtain ⟨W0,hW0⟩ : ∃ W0,w.alloc (.cells (c6 0 false 0 0 ⟨#[]⟩ none 0 0) 54) = W0:=⟨_,rfl⟩
 have HW0:=Ld hW0
 have HBX:=Ld (fun W (h : Below (w.heap.size + 1) W0 W) => box_i (hW0 ▸ h))
 have HS0:=Ld (show W0.heap.size = w.heap.size + 1 by rw [← hW0];simp)
 have HR0:=Ld (show W0.heap[w.heap.size]? = some (.cells (c6 0 false 0 0 ⟨#[]⟩ none 0 0) 54 (0,0)) by rw [← hW0];exact heap_alloc_new w _)
 have HB0:=Ld (show Below w.heap.size w W0 by rw [← hW0];exact (Below.refl _ _).alloc (Nat.le_refl _) _)
 clear hW0
 have hi0:=idx0 (15 : UInt8) s
 have hsz:=size_mk ((15 : UInt8) :: s)
 have hszs:=size_mk s
 have hem : ((⟨((15 : UInt8) :: s).toArray⟩ : ByteArray).toList == []) = false:=by rw [ByteArray.toList_eq];rfl
 have hsl : ∀ wx : World,(Instr.slice 9 (.string ⟨((15 : UInt8) :: s).toArray⟩) (some (.int .i64 1)) none none).run Tryz.prog wx = .ok (.string ⟨s.toArray⟩) wx:=fun wx => strS_from ((15 : UInt8) :: s) 1 (by simp) .i64 wx
 go_enter Tryz.func132,Tryz.ntmps132
 go_upto_region 1 with fail
 rw [show w.alloc (.cells #[.int .u8 0,.bool false,.int .i64 0,.float .f64 0,.string ⟨#[]⟩,.slice none 0 0] 54) = W0 from HW0.out]
 go_upto_region 3 with fail
 refine wp_region_sched (S:=fun W => Below W0.heap.size W0 W) [(0,true),(1,true),(2,true),(3,true),(4,true),(5,true),(6,true)] (by kernel_rfl) (by kernel_rfl) (by kernel_rfl) (fun _ _ d _ _ h => by cases d <;> exact h) (Below.refl _ _).drew ?_
 repeat (apply sched_take;(exact rfl);rfl;(intro W hW;go_simp;(try with_reducible rfl));simp only [Act.put,List.setIfInBounds_toArray,List.set_cons_zero,List.set_cons_succ])
 refine sched_done ?_
 have HR1:=Ld (show W0.drew.heap[w.heap.size]? = some (.cells (c6 0 false 0 0 ⟨#[]⟩ none 0 0) 54 (0,0)) from HR0.out)
 have HB1:=Ld (show Below w.heap.size w W0.drew from HB0.out.drew)
 clear hi0 hsl hem hsz
 by_cases hs : s.length < 5
 ·have HN:=Ld (show R = none by rw [HE.out,redW,if_pos (show s.length < Int.natAbs (-5) from hs)])
  go_wp2_with (refine wpList_store_row rfl 54 (.tmp 4) (.tmp 56) rfl w.heap.size (c6 0 false 0 0 ⟨#[]⟩ none 0 0) rfl rfl 54 _ HR1.out (by kernel_rfl) rfl (one6 _ _ _ _ _ _ _ _) ?_)
  refine bodyPost_ret (results_ctt rfl _ _ w.heap.size 54 _ (0,0) _ rfl (setRow_block _ _ _ _ _ _ (HR1.out)) Tryz.underlying54 rfl (by kernel_rfl)) rfl ⟨below_setRow (HB1.out) (Nat.le_refl _) _,?_⟩
  rw [HN.out]
  rfl
 ·have HN:=Ld (show R = some (.mk 3 false (valW (-5) (numB (s.take 5))) 0 ⟨#[]⟩ [],s.drop 5) by rw [HE.out,redW,if_neg (show ¬ s.length < Int.natAbs (-5) from hs)];rfl)
  have HNC:=Ld (fun w => number_l (s.take 5) w (by rw [List.length_take];omega))
  have HNL:=Ld (show numB (s.take 5) < 256 ^ 5 from numB_take_lt s (Nat.le_refl _))
  obtain ⟨u,hu⟩ : ∃ u,numB (s.take 5) = u:=⟨_,rfl⟩
  rw [hu] at HN HNL
  simp only [hu] at HNC
  clear hu
  obtain ⟨z,hz⟩ : ∃ z : Int,(u : Int) = z:=⟨_,rfl⟩
  have HZ:=Ld hz
  rw [hz] at HNC
  clear hz
  obtain ⟨v,hv⟩ : ∃ v,valW (-5) u = v:=⟨_,rfl⟩
  have HVR:=Ld (show -9223372036854775808 ≤ v ∧ v ≤ 9223372036854775807 by rw [← hv];exact valW_range _ _)
  rw [hv] at HN
  have hsl8 : ∀ wx : World,(Instr.slice 9 (.string ⟨s.toArray⟩) none (some (.int .i64 5)) none).run Tryz.prog wx = .ok (.string ⟨(s.take 5).toArray⟩) wx:=fun wx => strS_to s 5 (by omega) .i64 wx
  have hsd8 : ∀ wx : World,(Instr.slice 9 (.string ⟨s.toArray⟩) (some (.int .i64 5)) none none).run Tryz.prog wx = .ok (.string ⟨(s.drop 5).toArray⟩) wx:=fun wx => strS_from s 5 (by omega) .i64 wx
  obtain ⟨y,hy⟩ : ∃ y,IntKind.u64.wrap (z - 1099511627775) = y:=⟨_,rfl⟩
  have HQ:=Ld (show y = (z - 1099511627775) % 18446744073709551616 by rw [← hy];simp [IntKind.wrap,IntKind.bits,IntKind.signed])
  have hv1 : IntKind.i64.wrap y = v:=by
   have h1:=HZ.out;have h2:=HQ.out;have h3:=HNL.out
   rw [← hv,valW,if_pos (by decide),show (256 : Int) ^ Int.natAbs (-5) = 1099511627776 from rfl,IntKind.wrap_i64,IntKind.wrap_i64]
   (try unfold wrap64)
   omega
  have hv2 : wrap64 y = v:=by rw [← hv1,IntKind.wrap_i64];(try unfold wrap64);omega
  clear hv
  have HBX0:=Ld (show Box w.heap.size 6 54 w W0.drew from ⟨HB1.out,_,HR1.out,rfl⟩)
  go_upto_region 19 with (go_at_call 142;go_must (refine (HNC.out _).mono ?_;rintro e w1 ⟨rfl,rfl⟩))
  refine wp_region_sched (S:=Box w.heap.size 6 54 w) [(0,true),(1,true),(2,true),(3,true),(4,true),(5,true),(6,false),(7,true),(8,true)] (by kernel_rfl) (by kernel_rfl) (by kernel_rfl) (fun _ _ d _ _ h => by cases d <;> exact h) HBX0.out.drew ?_
  repeat (apply sched_take;(exact rfl);rfl;(intro W hW;go_simp;(try with_reducible rfl));simp only [Act.put,List.setIfInBounds_toArray,List.set_cons_zero,List.set_cons_succ])
  apply sched_run;(exact rfl);rfl;intro K hK
  refine wp_store_box HBX0.out.drew 54 (.tmp 4) (.tmp 83) rfl (c6 3 false v 0 ⟨#[]⟩ none 0 0) rfl rfl (by kernel_rfl) rfl (one6 _ _ _ _ _ _ _ _) ?_
  have hB2:=HBX0.out.drew.setRow (c6 3 false v 0 ⟨#[]⟩ none 0 0) rfl
  refine hK.out _ _ hB2 (fun _ => ?_)
  clear hK K
  try simp only [Act.put,List.setIfInBounds_toArray,List.set_cons_zero,List.set_cons_succ]
  repeat (apply sched_take;(exact rfl);rfl;(intro W hW;go_simp;(try with_reducible rfl));simp only [Act.put,List.setIfInBounds_toArray,List.set_cons_zero,List.set_cons_succ])
  refine sched_done ?_
  go_wp2
  refine bodyPost_ret (results_ctt rfl _ _ w.heap.size 54 _ (0,0) _ rfl (setRow_block _ _ _ _ _ _ (show W0.drew.drew.heap[w.heap.size]? = _ from HR1.out)) Tryz.underlying54 rfl (by kernel_rfl)) rfl ⟨hB2.1,?_⟩
  rw [HN.out]
  exact ⟨VI.mk 3 false v 0 ⟨#[]⟩ none 0 [],rfl,by simp [VI.data,VI.dataL],RdV.plain _ _ _ _ _ _ (by decide) (by decide) (by decide) HVR.out,BlkV.plain _ _ _ _ _ _⟩
end
section
open Go.RowKit
set_option maxHeartbeats 2000000
set_option maxRecDepth 100000
theorem readI16_c [Inhabited Thr] (r : Nat) (t : UInt8) (s : List UInt8) (d : Nat) (w : World) (hd : d + (r + 1) = 9) (hl : (t :: s).length ≤ 4096) (ht : t = 16) :
 Calls Tryz.prog 132 #[.string ⟨(t :: s).toArray⟩,.int .i64 d] w (ReadEnd (redI (r + 1) (t :: s)) w):=by
 have HRD:=Ld (redI_cons r t s)
 obtain ⟨R,hR⟩ : ∃ R,redI (r + 1) (t :: s) = R:=⟨_,rfl⟩
 rw [hR] at HRD ⊢
 have hls : s.length ≤ 4095:=by simpa using hl
 subst ht
 have HE:=Ld (show R = redW (-4) s by rw [HRD.out];rfl)
 have hd8 : d ≤ 8:=by omega
 have HDD:=Ld hd
 clear hR hl hd
 obtain ⟨W0,hW0⟩ : ∃ W0,w.alloc (.cells (c6 0 false 0 0 ⟨#[]⟩ none 0 0) 54) = W0:=⟨_,rfl⟩
 have HW0:=Ld hW0
 have HBX:=Ld (fun W (h : Below (w.heap.size + 1) W0 W) => box_i (hW0 ▸ h))
 have HS0:=Ld (show W0.heap.size = w.heap.size + 1 by rw [← hW0];simp)
 have HR0:=Ld (show W0.heap[w.heap.size]? = some (.cells (c6 0 false 0 0 ⟨#[]⟩ none 0 0) 54 (0,0)) by rw [← hW0];exact heap_alloc_new w _)
 have HB0:=Ld (show Below w.heap.size w W0 by rw [← hW0];exact (Below.refl _ _).alloc (Nat.le_refl _) _)
 clear hW0
 have hi0:=idx0 (16 : UInt8) s
 have hsz:=size_mk ((16 : UInt8) :: s)
 have hszs:=size_mk s
 have hem : ((⟨((16 : UInt8) :: s).toArray⟩ : ByteArray).toList == []) = false:=by rw [ByteArray.toList_eq];rfl
 have hsl : ∀ wx : World,(Instr.slice 9 (.string ⟨((16 : UInt8) :: s).toArray⟩) (some (.int .i64 1)) none none).run Tryz.prog wx = .ok (.string ⟨s.toArray⟩) wx:=fun wx => strS_from ((16 : UInt8) :: s) 1 (by simp) .i64 wx
 go_enter Tryz.func132,Tryz.ntmps132
 go_upto_region 1 with fail
 rw [show w.alloc (.cells #[.int .u8 0,.bool false,.int .i64 0,.float .f64 0,.string ⟨#[]⟩,.slice none 0 0] 54) = W0 from HW0.out]
 go_upto_region 3 with fail
 refine wp_region_sched (S:=fun W => Below W0.heap.size W0 W) [(0,true),(1,true),(2,true),(3,true),(4,true),(5,true),(6,true)] (by kernel_rfl) (by kernel_rfl) (by kernel_rfl) (fun _ _ d _ _ h => by cases d <;> exact h) (Below.refl _ _).drew ?_
 repeat (apply sched_take;(exact rfl);rfl;(intro W hW;go_simp;(try with_reducible rfl));simp only [Act.put,List.setIfInBounds_toArray,List.set_cons_zero,List.set_cons_succ])
 refine sched_done ?_
 have HR1:=Ld (show W0.drew.heap[w.heap.size]? = some (.cells (c6 0 false 0 0 ⟨#[]⟩ none 0 0) 54 (0,0)) from HR0.out)
 have HB1:=Ld (show Below w.heap.size w W0.drew from HB0.out.drew)
 clear hi0 hsl hem hsz
 by_cases hs : s.length < 4
 ·have HN:=Ld (show R = none by rw [HE.out,redW,if_pos (show s.length < Int.natAbs (-4) from hs)])
  go_wp2_with (refine wpList_store_row rfl 54 (.tmp 4) (.tmp 56) rfl w.heap.size (c6 0 false 0 0 ⟨#[]⟩ none 0 0) rfl rfl 54 _ HR1.out (by kernel_rfl) rfl (one6 _ _ _ _ _ _ _ _) ?_)
  refine bodyPost_ret (results_ctt rfl _ _ w.heap.size 54 _ (0,0) _ rfl (setRow_block _ _ _ _ _ _ (HR1.out)) Tryz.underlying54 rfl (by kernel_rfl)) rfl ⟨below_setRow (HB1.out) (Nat.le_refl _) _,?_⟩
  rw [HN.out]
  rfl
 ·have HN:=Ld (show R = some (.mk 3 false (valW (-4) (numB (s.take 4))) 0 ⟨#[]⟩ [],s.drop 4) by rw [HE.out,redW,if_neg (show ¬ s.length < Int.natAbs (-4) from hs)];rfl)
  have HNC:=Ld (fun w => number_l (s.take 4) w (by rw [List.length_take];omega))
  have HNL:=Ld (show numB (s.take 4) < 256 ^ 4 from numB_take_lt s (Nat.le_refl _))
  obtain ⟨u,hu⟩ : ∃ u,numB (s.take 4) = u:=⟨_,rfl⟩
  rw [hu] at HN HNL
  simp only [hu] at HNC
  clear hu
  obtain ⟨z,hz⟩ : ∃ z : Int,(u : Int) = z:=⟨_,rfl⟩
  have HZ:=Ld hz
  rw [hz] at HNC
  clear hz
  obtain ⟨v,hv⟩ : ∃ v,valW (-4) u = v:=⟨_,rfl⟩
  have HVR:=Ld (show -9223372036854775808 ≤ v ∧ v ≤ 9223372036854775807 by rw [← hv];exact valW_range _ _)
  rw [hv] at HN
  have hsl8 : ∀ wx : World,(Instr.slice 9 (.string ⟨s.toArray⟩) none (some (.int .i64 4)) none).run Tryz.prog wx = .ok (.string ⟨(s.take 4).toArray⟩) wx:=fun wx => strS_to s 4 (by omega) .i64 wx
  have hsd8 : ∀ wx : World,(Instr.slice 9 (.string ⟨s.toArray⟩) (some (.int .i64 4)) none none).run Tryz.prog wx = .ok (.string ⟨(s.drop 4).toArray⟩) wx:=fun wx => strS_from s 4 (by omega) .i64 wx
  obtain ⟨y,hy⟩ : ∃ y,IntKind.u64.wrap (z - 4294967295) = y:=⟨_,rfl⟩
  have HQ:=Ld (show y = (z - 4294967295) % 18446744073709551616 by rw [← hy];simp [IntKind.wrap,IntKind.bits,IntKind.signed])
  have hv1 : IntKind.i64.wrap y = v:=by
   have h1:=HZ.out;have h2:=HQ.out;have h3:=HNL.out
   rw [← hv,valW,if_pos (by decide),show (256 : Int) ^ Int.natAbs (-4) = 4294967296 from rfl,IntKind.wrap_i64,IntKind.wrap_i64]
   (try unfold wrap64)
   omega
  have hv2 : wrap64 y = v:=by rw [← hv1,IntKind.wrap_i64];(try unfold wrap64);omega
  clear hv
  have HBX0:=Ld (show Box w.heap.size 6 54 w W0.drew from ⟨HB1.out,_,HR1.out,rfl⟩)
  go_upto_region 19 with (go_at_call 142;go_must (refine (HNC.out _).mono ?_;rintro e w1 ⟨rfl,rfl⟩))
  refine wp_region_sched (S:=Box w.heap.size 6 54 w) [(0,true),(1,true),(2,true),(3,true),(4,true),(5,true),(6,false),(7,true),(8,true)] (by kernel_rfl) (by kernel_rfl) (by kernel_rfl) (fun _ _ d _ _ h => by cases d <;> exact h) HBX0.out.drew ?_
  repeat (apply sched_take;(exact rfl);rfl;(intro W hW;go_simp;(try with_reducible rfl));simp only [Act.put,List.setIfInBounds_toArray,List.set_cons_zero,List.set_cons_succ])
  apply sched_run;(exact rfl);rfl;intro K hK
  refine wp_store_box HBX0.out.drew 54 (.tmp 4) (.tmp 83) rfl (c6 3 false v 0 ⟨#[]⟩ none 0 0) rfl rfl (by kernel_rfl) rfl (one6 _ _ _ _ _ _ _ _) ?_
  have hB2:=HBX0.out.drew.setRow (c6 3 false v 0 ⟨#[]⟩ none 0 0) rfl
  refine hK.out _ _ hB2 (fun _ => ?_)
  clear hK K
  try simp only [Act.put,List.setIfInBounds_toArray,List.set_cons_zero,List.set_cons_succ]
  repeat (apply sched_take;(exact rfl);rfl;(intro W hW;go_simp;(try with_reducible rfl));simp only [Act.put,List.setIfInBounds_toArray,List.set_cons_zero,List.set_cons_succ])
  refine sched_done ?_
  go_wp2
  refine bodyPost_ret (results_ctt rfl _ _ w.heap.size 54 _ (0,0) _ rfl (setRow_block _ _ _ _ _ _ (show W0.drew.drew.heap[w.heap.size]? = _ from HR1.out)) Tryz.underlying54 rfl (by kernel_rfl)) rfl ⟨hB2.1,?_⟩
  rw [HN.out]
  exact ⟨VI.mk 3 false v 0 ⟨#[]⟩ none 0 [],rfl,by simp [VI.data,VI.dataL],RdV.plain _ _ _ _ _ _ (by decide) (by decide) (by decide) HVR.out,BlkV.plain _ _ _ _ _ _⟩
theorem readI17_c [Inhabited Thr] (r : Nat) (t : UInt8) (s : List UInt8) (d : Nat) (w : World) (hd : d + (r + 1) = 9) (hl : (t :: s).length ≤ 4096) (ht : t = 17) :
 Calls Tryz.prog 132 #[.string ⟨(t :: s).toArray⟩,.int .i64 d] w (ReadEnd (redI (r + 1) (t :: s)) w):=by
 have HRD:=Ld (redI_cons r t s)
 obtain ⟨R,hR⟩ : ∃ R,redI (r + 1) (t :: s) = R:=⟨_,rfl⟩
 rw [hR] at HRD ⊢
 have hls : s.length ≤ 4095:=by simpa using hl
 subst ht
 have HE:=Ld (show R = redW (-3) s by rw [HRD.out];rfl)
 have hd8 : d ≤ 8:=by omega
 have HDD:=Ld hd
 clear hR hl hd
 obtain ⟨W0,hW0⟩ : ∃ W0,w.alloc (.cells (c6 0 false 0 0 ⟨#[]⟩ none 0 0) 54) = W0:=⟨_,rfl⟩
 have HW0:=Ld hW0
 have HBX:=Ld (fun W (h : Below (w.heap.size + 1) W0 W) => box_i (hW0 ▸ h))
 have HS0:=Ld (show W0.heap.size = w.heap.size + 1 by rw [← hW0];simp)
 have HR0:=Ld (show W0.heap[w.heap.size]? = some (.cells (c6 0 false 0 0 ⟨#[]⟩ none 0 0) 54 (0,0)) by rw [← hW0];exact heap_alloc_new w _)
 have HB0:=Ld (show Below w.heap.size w W0 by rw [← hW0];exact (Below.refl _ _).alloc (Nat.le_refl _) _)
 clear hW0
 have hi0:=idx0 (17 : UInt8) s
 have hsz:=size_mk ((17 : UInt8) :: s)
 have hszs:=size_mk s
 have hem : ((⟨((17 : UInt8) :: s).toArray⟩ : ByteArray).toList == []) = false:=by rw [ByteArray.toList_eq];rfl
 have hsl : ∀ wx : World,(Instr.slice 9 (.string ⟨((17 : UInt8) :: s).toArray⟩) (some (.int .i64 1)) none none).run Tryz.prog wx = .ok (.string ⟨s.toArray⟩) wx:=fun wx => strS_from ((17 : UInt8) :: s) 1 (by simp) .i64 wx
 go_enter Tryz.func132,Tryz.ntmps132
 go_upto_region 1 with fail
 rw [show w.alloc (.cells #[.int .u8 0,.bool false,.int .i64 0,.float .f64 0,.string ⟨#[]⟩,.slice none 0 0] 54) = W0 from HW0.out]
 go_upto_region 3 with fail
 refine wp_region_sched (S:=fun W => Below W0.heap.size W0 W) [(0,true),(1,true),(2,true),(3,true),(4,true),(5,true),(6,true)] (by kernel_rfl) (by kernel_rfl) (by kernel_rfl) (fun _ _ d _ _ h => by cases d <;> exact h) (Below.refl _ _).drew ?_
 repeat (apply sched_take;(exact rfl);rfl;(intro W hW;go_simp;(try with_reducible rfl));simp only [Act.put,List.setIfInBounds_toArray,List.set_cons_zero,List.set_cons_succ])
 refine sched_done ?_
 have HR1:=Ld (show W0.drew.heap[w.heap.size]? = some (.cells (c6 0 false 0 0 ⟨#[]⟩ none 0 0) 54 (0,0)) from HR0.out)
 have HB1:=Ld (show Below w.heap.size w W0.drew from HB0.out.drew)
 clear hi0 hsl hem hsz
 by_cases hs : s.length < 3
 ·have HN:=Ld (show R = none by rw [HE.out,redW,if_pos (show s.length < Int.natAbs (-3) from hs)])
  go_wp2_with (refine wpList_store_row rfl 54 (.tmp 4) (.tmp 56) rfl w.heap.size (c6 0 false 0 0 ⟨#[]⟩ none 0 0) rfl rfl 54 _ HR1.out (by kernel_rfl) rfl (one6 _ _ _ _ _ _ _ _) ?_)
  refine bodyPost_ret (results_ctt rfl _ _ w.heap.size 54 _ (0,0) _ rfl (setRow_block _ _ _ _ _ _ (HR1.out)) Tryz.underlying54 rfl (by kernel_rfl)) rfl ⟨below_setRow (HB1.out) (Nat.le_refl _) _,?_⟩
  rw [HN.out]
  rfl
 ·have HN:=Ld (show R = some (.mk 3 false (valW (-3) (numB (s.take 3))) 0 ⟨#[]⟩ [],s.drop 3) by rw [HE.out,redW,if_neg (show ¬ s.length < Int.natAbs (-3) from hs)];rfl)
  have HNC:=Ld (fun w => number_l (s.take 3) w (by rw [List.length_take];omega))
  have HNL:=Ld (show numB (s.take 3) < 256 ^ 3 from numB_take_lt s (Nat.le_refl _))
  obtain ⟨u,hu⟩ : ∃ u,numB (s.take 3) = u:=⟨_,rfl⟩
  rw [hu] at HN HNL
  simp only [hu] at HNC
  clear hu
  obtain ⟨z,hz⟩ : ∃ z : Int,(u : Int) = z:=⟨_,rfl⟩
  have HZ:=Ld hz
  rw [hz] at HNC
  clear hz
  obtain ⟨v,hv⟩ : ∃ v,valW (-3) u = v:=⟨_,rfl⟩
  have HVR:=Ld (show -9223372036854775808 ≤ v ∧ v ≤ 9223372036854775807 by rw [← hv];exact valW_range _ _)
  rw [hv] at HN
  have hsl8 : ∀ wx : World,(Instr.slice 9 (.string ⟨s.toArray⟩) none (some (.int .i64 3)) none).run Tryz.prog wx = .ok (.string ⟨(s.take 3).toArray⟩) wx:=fun wx => strS_to s 3 (by omega) .i64 wx
  have hsd8 : ∀ wx : World,(Instr.slice 9 (.string ⟨s.toArray⟩) (some (.int .i64 3)) none none).run Tryz.prog wx = .ok (.string ⟨(s.drop 3).toArray⟩) wx:=fun wx => strS_from s 3 (by omega) .i64 wx
  obtain ⟨y,hy⟩ : ∃ y,IntKind.u64.wrap (z - 16777215) = y:=⟨_,rfl⟩
  have HQ:=Ld (show y = (z - 16777215) % 18446744073709551616 by rw [← hy];simp [IntKind.wrap,IntKind.bits,IntKind.signed])
  have hv1 : IntKind.i64.wrap y = v:=by
   have h1:=HZ.out;have h2:=HQ.out;have h3:=HNL.out
   rw [← hv,valW,if_pos (by decide),show (256 : Int) ^ Int.natAbs (-3) = 16777216 from rfl,IntKind.wrap_i64,IntKind.wrap_i64]
   (try unfold wrap64)
   omega
  have hv2 : wrap64 y = v:=by rw [← hv1,IntKind.wrap_i64];(try unfold wrap64);omega
  clear hv
  have HBX0:=Ld (show Box w.heap.size 6 54 w W0.drew from ⟨HB1.out,_,HR1.out,rfl⟩)
  go_upto_region 19 with (go_at_call 142;go_must (refine (HNC.out _).mono ?_;rintro e w1 ⟨rfl,rfl⟩))
  refine wp_region_sched (S:=Box w.heap.size 6 54 w) [(0,true),(1,true),(2,true),(3,true),(4,true),(5,true),(6,false),(7,true),(8,true)] (by kernel_rfl) (by kernel_rfl) (by kernel_rfl) (fun _ _ d _ _ h => by cases d <;> exact h) HBX0.out.drew ?_
  repeat (apply sched_take;(exact rfl);rfl;(intro W hW;go_simp;(try with_reducible rfl));simp only [Act.put,List.setIfInBounds_toArray,List.set_cons_zero,List.set_cons_succ])
  apply sched_run;(exact rfl);rfl;intro K hK
  refine wp_store_box HBX0.out.drew 54 (.tmp 4) (.tmp 83) rfl (c6 3 false v 0 ⟨#[]⟩ none 0 0) rfl rfl (by kernel_rfl) rfl (one6 _ _ _ _ _ _ _ _) ?_
  have hB2:=HBX0.out.drew.setRow (c6 3 false v 0 ⟨#[]⟩ none 0 0) rfl
  refine hK.out _ _ hB2 (fun _ => ?_)
  clear hK K
  try simp only [Act.put,List.setIfInBounds_toArray,List.set_cons_zero,List.set_cons_succ]
  repeat (apply sched_take;(exact rfl);rfl;(intro W hW;go_simp;(try with_reducible rfl));simp only [Act.put,List.setIfInBounds_toArray,List.set_cons_zero,List.set_cons_succ])
  refine sched_done ?_
  go_wp2
  refine bodyPost_ret (results_ctt rfl _ _ w.heap.size 54 _ (0,0) _ rfl (setRow_block _ _ _ _ _ _ (show W0.drew.drew.heap[w.heap.size]? = _ from HR1.out)) Tryz.underlying54 rfl (by kernel_rfl)) rfl ⟨hB2.1,?_⟩
  rw [HN.out]
  exact ⟨VI.mk 3 false v 0 ⟨#[]⟩ none 0 [],rfl,by simp [VI.data,VI.dataL],RdV.plain _ _ _ _ _ _ (by decide) (by decide) (by decide) HVR.out,BlkV.plain _ _ _ _ _ _⟩
theorem readI18_c [Inhabited Thr] (r : Nat) (t : UInt8) (s : List UInt8) (d : Nat) (w : World) (hd : d + (r + 1) = 9) (hl : (t :: s).length ≤ 4096) (ht : t = 18) :
 Calls Tryz.prog 132 #[.string ⟨(t :: s).toArray⟩,.int .i64 d] w (ReadEnd (redI (r + 1) (t :: s)) w):=by
 have HRD:=Ld (redI_cons r t s)
 obtain ⟨R,hR⟩ : ∃ R,redI (r + 1) (t :: s) = R:=⟨_,rfl⟩
 rw [hR] at HRD ⊢
 have hls : s.length ≤ 4095:=by simpa using hl
 subst ht
 have HE:=Ld (show R = redW (-2) s by rw [HRD.out];rfl)
 have hd8 : d ≤ 8:=by omega
 have HDD:=Ld hd
 clear hR hl hd
 obtain ⟨W0,hW0⟩ : ∃ W0,w.alloc (.cells (c6 0 false 0 0 ⟨#[]⟩ none 0 0) 54) = W0:=⟨_,rfl⟩
 have HW0:=Ld hW0
 have HBX:=Ld (fun W (h : Below (w.heap.size + 1) W0 W) => box_i (hW0 ▸ h))
 have HS0:=Ld (show W0.heap.size = w.heap.size + 1 by rw [← hW0];simp)
 have HR0:=Ld (show W0.heap[w.heap.size]? = some (.cells (c6 0 false 0 0 ⟨#[]⟩ none 0 0) 54 (0,0)) by rw [← hW0];exact heap_alloc_new w _)
 have HB0:=Ld (show Below w.heap.size w W0 by rw [← hW0];exact (Below.refl _ _).alloc (Nat.le_refl _) _)
 clear hW0
 have hi0:=idx0 (18 : UInt8) s
 have hsz:=size_mk ((18 : UInt8) :: s)
 have hszs:=size_mk s
 have hem : ((⟨((18 : UInt8) :: s).toArray⟩ : ByteArray).toList == []) = false:=by rw [ByteArray.toList_eq];rfl
 have hsl : ∀ wx : World,(Instr.slice 9 (.string ⟨((18 : UInt8) :: s).toArray⟩) (some (.int .i64 1)) none none).run Tryz.prog wx = .ok (.string ⟨s.toArray⟩) wx:=fun wx => strS_from ((18 : UInt8) :: s) 1 (by simp) .i64 wx
 go_enter Tryz.func132,Tryz.ntmps132
 go_upto_region 1 with fail
 rw [show w.alloc (.cells #[.int .u8 0,.bool false,.int .i64 0,.float .f64 0,.string ⟨#[]⟩,.slice none 0 0] 54) = W0 from HW0.out]
 go_upto_region 3 with fail
 refine wp_region_sched (S:=fun W => Below W0.heap.size W0 W) [(0,true),(1,true),(2,true),(3,true),(4,true),(5,true),(6,true)] (by kernel_rfl) (by kernel_rfl) (by kernel_rfl) (fun _ _ d _ _ h => by cases d <;> exact h) (Below.refl _ _).drew ?_
 repeat (apply sched_take;(exact rfl);rfl;(intro W hW;go_simp;(try with_reducible rfl));simp only [Act.put,List.setIfInBounds_toArray,List.set_cons_zero,List.set_cons_succ])
 refine sched_done ?_
 have HR1:=Ld (show W0.drew.heap[w.heap.size]? = some (.cells (c6 0 false 0 0 ⟨#[]⟩ none 0 0) 54 (0,0)) from HR0.out)
 have HB1:=Ld (show Below w.heap.size w W0.drew from HB0.out.drew)
 clear hi0 hsl hem hsz
 by_cases hs : s.length < 2
 ·have HN:=Ld (show R = none by rw [HE.out,redW,if_pos (show s.length < Int.natAbs (-2) from hs)])
  go_wp2_with (refine wpList_store_row rfl 54 (.tmp 4) (.tmp 56) rfl w.heap.size (c6 0 false 0 0 ⟨#[]⟩ none 0 0) rfl rfl 54 _ HR1.out (by kernel_rfl) rfl (one6 _ _ _ _ _ _ _ _) ?_)
  refine bodyPost_ret (results_ctt rfl _ _ w.heap.size 54 _ (0,0) _ rfl (setRow_block _ _ _ _ _ _ (HR1.out)) Tryz.underlying54 rfl (by kernel_rfl)) rfl ⟨below_setRow (HB1.out) (Nat.le_refl _) _,?_⟩
  rw [HN.out]
  rfl
 ·have HN:=Ld (show R = some (.mk 3 false (valW (-2) (numB (s.take 2))) 0 ⟨#[]⟩ [],s.drop 2) by rw [HE.out,redW,if_neg (show ¬ s.length < Int.natAbs (-2) from hs)];rfl)
  have HNC:=Ld (fun w => number_l (s.take 2) w (by rw [List.length_take];omega))
  have HNL:=Ld (show numB (s.take 2) < 256 ^ 2 from numB_take_lt s (Nat.le_refl _))
  obtain ⟨u,hu⟩ : ∃ u,numB (s.take 2) = u:=⟨_,rfl⟩
  rw [hu] at HN HNL
  simp only [hu] at HNC
  clear hu
  obtain ⟨z,hz⟩ : ∃ z : Int,(u : Int) = z:=⟨_,rfl⟩
  have HZ:=Ld hz
  rw [hz] at HNC
  clear hz
  obtain ⟨v,hv⟩ : ∃ v,valW (-2) u = v:=⟨_,rfl⟩
  have HVR:=Ld (show -9223372036854775808 ≤ v ∧ v ≤ 9223372036854775807 by rw [← hv];exact valW_range _ _)
  rw [hv] at HN
  have hsl8 : ∀ wx : World,(Instr.slice 9 (.string ⟨s.toArray⟩) none (some (.int .i64 2)) none).run Tryz.prog wx = .ok (.string ⟨(s.take 2).toArray⟩) wx:=fun wx => strS_to s 2 (by omega) .i64 wx
  have hsd8 : ∀ wx : World,(Instr.slice 9 (.string ⟨s.toArray⟩) (some (.int .i64 2)) none none).run Tryz.prog wx = .ok (.string ⟨(s.drop 2).toArray⟩) wx:=fun wx => strS_from s 2 (by omega) .i64 wx
  obtain ⟨y,hy⟩ : ∃ y,IntKind.u64.wrap (z - 65535) = y:=⟨_,rfl⟩
  have HQ:=Ld (show y = (z - 65535) % 18446744073709551616 by rw [← hy];simp [IntKind.wrap,IntKind.bits,IntKind.signed])
  have hv1 : IntKind.i64.wrap y = v:=by
   have h1:=HZ.out;have h2:=HQ.out;have h3:=HNL.out
   rw [← hv,valW,if_pos (by decide),show (256 : Int) ^ Int.natAbs (-2) = 65536 from rfl,IntKind.wrap_i64,IntKind.wrap_i64]
   (try unfold wrap64)
   omega
  have hv2 : wrap64 y = v:=by rw [← hv1,IntKind.wrap_i64];(try unfold wrap64);omega
  clear hv
  have HBX0:=Ld (show Box w.heap.size 6 54 w W0.drew from ⟨HB1.out,_,HR1.out,rfl⟩)
  go_upto_region 19 with (go_at_call 142;go_must (refine (HNC.out _).mono ?_;rintro e w1 ⟨rfl,rfl⟩))
  refine wp_region_sched (S:=Box w.heap.size 6 54 w) [(0,true),(1,true),(2,true),(3,true),(4,true),(5,true),(6,false),(7,true),(8,true)] (by kernel_rfl) (by kernel_rfl) (by kernel_rfl) (fun _ _ d _ _ h => by cases d <;> exact h) HBX0.out.drew ?_
  repeat (apply sched_take;(exact rfl);rfl;(intro W hW;go_simp;(try with_reducible rfl));simp only [Act.put,List.setIfInBounds_toArray,List.set_cons_zero,List.set_cons_succ])
  apply sched_run;(exact rfl);rfl;intro K hK
  refine wp_store_box HBX0.out.drew 54 (.tmp 4) (.tmp 83) rfl (c6 3 false v 0 ⟨#[]⟩ none 0 0) rfl rfl (by kernel_rfl) rfl (one6 _ _ _ _ _ _ _ _) ?_
  have hB2:=HBX0.out.drew.setRow (c6 3 false v 0 ⟨#[]⟩ none 0 0) rfl
  refine hK.out _ _ hB2 (fun _ => ?_)
  clear hK K
  try simp only [Act.put,List.setIfInBounds_toArray,List.set_cons_zero,List.set_cons_succ]
  repeat (apply sched_take;(exact rfl);rfl;(intro W hW;go_simp;(try with_reducible rfl));simp only [Act.put,List.setIfInBounds_toArray,List.set_cons_zero,List.set_cons_succ])
  refine sched_done ?_
  go_wp2
  refine bodyPost_ret (results_ctt rfl _ _ w.heap.size 54 _ (0,0) _ rfl (setRow_block _ _ _ _ _ _ (show W0.drew.drew.heap[w.heap.size]? = _ from HR1.out)) Tryz.underlying54 rfl (by kernel_rfl)) rfl ⟨hB2.1,?_⟩
  rw [HN.out]
  exact ⟨VI.mk 3 false v 0 ⟨#[]⟩ none 0 [],rfl,by simp [VI.data,VI.dataL],RdV.plain _ _ _ _ _ _ (by decide) (by decide) (by decide) HVR.out,BlkV.plain _ _ _ _ _ _⟩
theorem readI19_c [Inhabited Thr] (r : Nat) (t : UInt8) (s : List UInt8) (d : Nat) (w : World) (hd : d + (r + 1) = 9) (hl : (t :: s).length ≤ 4096) (ht : t = 19) :
 Calls Tryz.prog 132 #[.string ⟨(t :: s).toArray⟩,.int .i64 d] w (ReadEnd (redI (r + 1) (t :: s)) w):=by
 have HRD:=Ld (redI_cons r t s)
 obtain ⟨R,hR⟩ : ∃ R,redI (r + 1) (t :: s) = R:=⟨_,rfl⟩
 rw [hR] at HRD ⊢
 have hls : s.length ≤ 4095:=by simpa using hl
 subst ht
 have HE:=Ld (show R = redW (-1) s by rw [HRD.out];rfl)
 have hd8 : d ≤ 8:=by omega
 have HDD:=Ld hd
 clear hR hl hd
 obtain ⟨W0,hW0⟩ : ∃ W0,w.alloc (.cells (c6 0 false 0 0 ⟨#[]⟩ none 0 0) 54) = W0:=⟨_,rfl⟩
 have HW0:=Ld hW0
 have HBX:=Ld (fun W (h : Below (w.heap.size + 1) W0 W) => box_i (hW0 ▸ h))
 have HS0:=Ld (show W0.heap.size = w.heap.size + 1 by rw [← hW0];simp)
 have HR0:=Ld (show W0.heap[w.heap.size]? = some (.cells (c6 0 false 0 0 ⟨#[]⟩ none 0 0) 54 (0,0)) by rw [← hW0];exact heap_alloc_new w _)
 have HB0:=Ld (show Below w.heap.size w W0 by rw [← hW0];exact (Below.refl _ _).alloc (Nat.le_refl _) _)
 clear hW0
 have hi0:=idx0 (19 : UInt8) s
 have hsz:=size_mk ((19 : UInt8) :: s)
 have hszs:=size_mk s
 have hem : ((⟨((19 : UInt8) :: s).toArray⟩ : ByteArray).toList == []) = false:=by rw [ByteArray.toList_eq];rfl
 have hsl : ∀ wx : World,(Instr.slice 9 (.string ⟨((19 : UInt8) :: s).toArray⟩) (some (.int .i64 1)) none none).run Tryz.prog wx = .ok (.string ⟨s.toArray⟩) wx:=fun wx => strS_from ((19 : UInt8) :: s) 1 (by simp) .i64 wx
 go_enter Tryz.func132,Tryz.ntmps132
 go_upto_region 1 with fail
 rw [show w.alloc (.cells #[.int .u8 0,.bool false,.int .i64 0,.float .f64 0,.string ⟨#[]⟩,.slice none 0 0] 54) = W0 from HW0.out]
 go_upto_region 3 with fail
 refine wp_region_sched (S:=fun W => Below W0.heap.size W0 W) [(0,true),(1,true),(2,true),(3,true),(4,true),(5,true),(6,true)] (by kernel_rfl) (by kernel_rfl) (by kernel_rfl) (fun _ _ d _ _ h => by cases d <;> exact h) (Below.refl _ _).drew ?_
 repeat (apply sched_take;(exact rfl);rfl;(intro W hW;go_simp;(try with_reducible rfl));simp only [Act.put,List.setIfInBounds_toArray,List.set_cons_zero,List.set_cons_succ])
 refine sched_done ?_
 have HR1:=Ld (show W0.drew.heap[w.heap.size]? = some (.cells (c6 0 false 0 0 ⟨#[]⟩ none 0 0) 54 (0,0)) from HR0.out)
 have HB1:=Ld (show Below w.heap.size w W0.drew from HB0.out.drew)
 clear hi0 hsl hem hsz
 by_cases hs : s.length < 1
 ·have HN:=Ld (show R = none by rw [HE.out,redW,if_pos (show s.length < Int.natAbs (-1) from hs)])
  go_wp2_with (refine wpList_store_row rfl 54 (.tmp 4) (.tmp 56) rfl w.heap.size (c6 0 false 0 0 ⟨#[]⟩ none 0 0) rfl rfl 54 _ HR1.out (by kernel_rfl) rfl (one6 _ _ _ _ _ _ _ _) ?_)
  refine bodyPost_ret (results_ctt rfl _ _ w.heap.size 54 _ (0,0) _ rfl (setRow_block _ _ _ _ _ _ (HR1.out)) Tryz.underlying54 rfl (by kernel_rfl)) rfl ⟨below_setRow (HB1.out) (Nat.le_refl _) _,?_⟩
  rw [HN.out]
  rfl
 ·have HN:=Ld (show R = some (.mk 3 false (valW (-1) (numB (s.take 1))) 0 ⟨#[]⟩ [],s.tail) by rw [HE.out,redW,if_neg (show ¬ s.length < Int.natAbs (-1) from hs),← List.drop_one];rfl)
  have HNC:=Ld (fun w => number_l (s.take 1) w (by rw [List.length_take];omega))
  have HNL:=Ld (show numB (s.take 1) < 256 ^ 1 from numB_take_lt s (Nat.le_refl _))
  obtain ⟨u,hu⟩ : ∃ u,numB (s.take 1) = u:=⟨_,rfl⟩
  rw [hu] at HN HNL
  simp only [hu] at HNC
  clear hu
  obtain ⟨z,hz⟩ : ∃ z : Int,(u : Int) = z:=⟨_,rfl⟩
  have HZ:=Ld hz
  rw [hz] at HNC
  clear hz
  obtain ⟨v,hv⟩ : ∃ v,valW (-1) u = v:=⟨_,rfl⟩
  have HVR:=Ld (show -9223372036854775808 ≤ v ∧ v ≤ 9223372036854775807 by rw [← hv];exact valW_range _ _)
  rw [hv] at HN
  have hsl8 : ∀ wx : World,(Instr.slice 9 (.string ⟨s.toArray⟩) none (some (.int .i64 1)) none).run Tryz.prog wx = .ok (.string ⟨(s.take 1).toArray⟩) wx:=fun wx => strS_to s 1 (by omega) .i64 wx
  have hsd8 : ∀ wx : World,(Instr.slice 9 (.string ⟨s.toArray⟩) (some (.int .i64 1)) none none).run Tryz.prog wx = .ok (.string ⟨(s.drop 1).toArray⟩) wx:=fun wx => strS_from s 1 (by omega) .i64 wx
  obtain ⟨y,hy⟩ : ∃ y,IntKind.u64.wrap (z - 255) = y:=⟨_,rfl⟩
  have HQ:=Ld (show y = (z - 255) % 18446744073709551616 by rw [← hy];simp [IntKind.wrap,IntKind.bits,IntKind.signed])
  have hv1 : IntKind.i64.wrap y = v:=by
   have h1:=HZ.out;have h2:=HQ.out;have h3:=HNL.out
   rw [← hv,valW,if_pos (by decide),show (256 : Int) ^ Int.natAbs (-1) = 256 from rfl,IntKind.wrap_i64,IntKind.wrap_i64]
   (try unfold wrap64)
   omega
  have hv2 : wrap64 y = v:=by rw [← hv1,IntKind.wrap_i64];(try unfold wrap64);omega
  clear hv
  have HBX0:=Ld (show Box w.heap.size 6 54 w W0.drew from ⟨HB1.out,_,HR1.out,rfl⟩)
  go_upto_region 19 with (go_at_call 142;go_must (refine (HNC.out _).mono ?_;rintro e w1 ⟨rfl,rfl⟩))
  refine wp_region_sched (S:=Box w.heap.size 6 54 w) [(0,true),(1,true),(2,true),(3,true),(4,true),(5,true),(6,false),(7,true),(8,true)] (by kernel_rfl) (by kernel_rfl) (by kernel_rfl) (fun _ _ d _ _ h => by cases d <;> exact h) HBX0.out.drew ?_
  repeat (apply sched_take;(exact rfl);rfl;(intro W hW;go_simp;(try with_reducible rfl));simp only [Act.put,List.setIfInBounds_toArray,List.set_cons_zero,List.set_cons_succ])
  apply sched_run;(exact rfl);rfl;intro K hK
  refine wp_store_box HBX0.out.drew 54 (.tmp 4) (.tmp 83) rfl (c6 3 false v 0 ⟨#[]⟩ none 0 0) rfl rfl (by kernel_rfl) rfl (one6 _ _ _ _ _ _ _ _) ?_
  have hB2:=HBX0.out.drew.setRow (c6 3 false v 0 ⟨#[]⟩ none 0 0) rfl
  refine hK.out _ _ hB2 (fun _ => ?_)
  clear hK K
  try simp only [Act.put,List.setIfInBounds_toArray,List.set_cons_zero,List.set_cons_succ]
  repeat (apply sched_take;(exact rfl);rfl;(intro W hW;go_simp;(try with_reducible rfl));simp only [Act.put,List.setIfInBounds_toArray,List.set_cons_zero,List.set_cons_succ])
  refine sched_done ?_
  go_wp2
  refine bodyPost_ret (results_ctt rfl _ _ w.heap.size 54 _ (0,0) _ rfl (setRow_block _ _ _ _ _ _ (show W0.drew.drew.heap[w.heap.size]? = _ from HR1.out)) Tryz.underlying54 rfl (by kernel_rfl)) rfl ⟨hB2.1,?_⟩
  rw [HN.out]
  exact ⟨VI.mk 3 false v 0 ⟨#[]⟩ none 0 [],rfl,by simp [VI.data,VI.dataL],RdV.plain _ _ _ _ _ _ (by decide) (by decide) (by decide) HVR.out,BlkV.plain _ _ _ _ _ _⟩
end
end Go.Proofs.YtonjgedhmmnolaaGreatDoor
