import Derived.Test.YtonjgedhmmnolaaGreatDoorZ8
namespace Go.Proofs.YtonjgedhmmnolaaGreatDoor
section
open Go.RowKit
set_option maxHeartbeats 1000000
set_option maxRecDepth 100000
attribute [local go_sem] grow_cell grow_frozen grow_size
theorem unpErr_ne {bs : List UInt8} (h : unpB bs = none) : unpErr bs ≠ 0:=by
 unfold unpErr
 rw [h]
 split <;> decide
theorem rowR_nk {pg wd : Int} {t : TabD} {kb vb : List UInt8} (h0 : chkT pg wd t = 0) (h : unpB kb = none) : rowR pg wd t kb vb = (none,251):=by rw [rowR,if_neg (by rw [h0];decide),h]
theorem rowR_nv {pg wd : Int} {t : TabD} {kb vb : List UInt8} (h0 : chkT pg wd t = 0) (h : unpB vb = none) : rowR pg wd t kb vb = (none,251):=by
 rw [rowR,if_neg (by rw [h0];decide),h]
 split <;> first | rfl | (rename_i h1 h2;cases h2)
theorem rowR_some {pg wd : Int} {t : TabD} {kb vb : List UInt8} {k0 : ItemD} {k v : List ItemD} (h0 : chkT pg wd t = 0) (h1 : unpB kb = some (k0 :: k)) (h2 : unpB vb = some v) : rowR pg wd t kb vb =
 if ((k.length : Int) ≠ t.keys ∨ k0.k ≠ 5 ∨ k0.t.data.toList ≠ t.name.data.toList) then (none,251)
 else if (keyR pg wd t ((k ++ v).take t.keys.toNat)).2 ≠ 0 ∨ (valR pg wd t (k ++ v)).2 ≠ 0 ∨ (keyR pg wd t ((k ++ v).take t.keys.toNat)).1 ≠ kb ∨ (valR pg wd t (k ++ v)).1 ≠ vb then (none,251)
 else (some (k ++ v),0):=by rw [rowR,if_neg (by rw [h0];decide),h1,h2]
theorem rowR_len {pg wd : Int} {t : TabD} {kb vb : List UInt8} {k v : List ItemD} (h0 : chkT pg wd t = 0) (h1 : unpB kb = some k) (h2 : unpB vb = some v) (hl : (k.length : Int) ≠ t.keys + 1) : rowR pg wd t kb vb = (none,251):=by
 cases k with
 | nil => rw [rowR,if_neg (by rw [h0];decide),h1,h2]
 | cons k0 k => rw [rowR_some h0 h1 h2,if_pos (.inl (by simp only [List.length_cons] at hl;omega))]
theorem slice_to {P : Program} (t : TypeId) (ht : P.underlying t = some (.slice (P.elem t))) (hs : ∃ n,∀ W,(sizeOf (P.elem t)).run P W = .ok n W) (b o n c k : Nat) (x : Int) (hx : x = k) (hk : k ≤ c) :
 ∀ W,(Instr.slice t (.slice (some ⟨b,o,none⟩) n c) none (some (.int .i64 x)) none).run P W = .ok (.slice (some ⟨b,o,none⟩) k c) W:=by
 intro W
 obtain ⟨m,hs⟩:=hs
 subst hx
 rw [run_slice_h (P:=P) W t (some ⟨b,o,none⟩) n c ht .i64 (k : Int) (by omega) (by omega),hs W]
 simp [sliced,Addr.add]
theorem first_at {w : World} {b o : Nat} {l : List VI} {x : VI} {r : List VI} (h : Rd w 6 (some ⟨b,o,none⟩) l.length (icells l)) (hl : l = x :: r) :
 w.cell? ⟨b,o,none⟩ = some (.int .u8 x.k) ∧ w.cell? ⟨b,o + 4,none⟩ = some (.string x.t) ∧ b < w.heap.size:=by
 subst hl
 obtain ⟨p0,_,_,_,p4,_⟩:=item_at h (k:=0) (by simp)
 simp only [Nat.zero_mul,Nat.add_zero,List.getElem_cons_zero] at p0 p4
 exact ⟨p0,p4,World.block_lt_of_cell? w _ p0⟩
theorem bytes_eq {a b : ByteArray} (h : a.data.toList = b.data.toList) : a = b:=by
 rcases a with ⟨⟨a⟩⟩
 rcases b with ⟨⟨b⟩⟩
 simp only at h
 rw [h]
theorem RowOf_c [Inhabited Thr] (pg wd : Int) (A : Option Addr) (c : Nat) (t : TabD) (kb vb : ByteArray) (w : World) (hR : RdT w A c t) (hcell : ∃ m,w.cell? ⟨1,0,none⟩ = some (.int .i64 m)) :
 Calls Tryz.prog 34 #[vF pg wd,vT t A c,.agg #[.string kb,.string vb]] w (RowEnd (rowR pg wd t kb.data.toList vb.data.toList) w):=by
 have HR:=Ld hR
 have HC:=Ld hcell
 have hkk:=hR.hk
 have hlen:=hR.hb
 rcases t with ⟨tn,cols,keys⟩
 simp only at hlen hkk
 have HBX:=Ld (fun W (h : Below (w.heap.size + 3) (((w.alloc (.cells #[.int .i64 pg,.int .i64 wd] 24)).alloc (.cells #[.string tn,.slice A cols.length c,.int .i64 keys] 27)).alloc (.cells #[.string kb,.string vb] 56)) W) => boxes_ftp h)
 have HW0:=Ld (show Below w.heap.size w (((w.alloc (.cells #[.int .i64 pg,.int .i64 wd] 24)).alloc (.cells #[.string tn,.slice A cols.length c,.int .i64 keys] 27)).alloc (.cells #[.string kb,.string vb] 56)) from (two_below w _ _).alloc (by simp;omega) _)
 clear hR hcell
 by_cases h0 : chkT pg wd ⟨tn,cols,keys⟩ = 0
 ·have HOK:=Ld (chkT_ok h0)
  have HSL:=Ld (show 1 ≤ cols.length ∧ cols.length ≤ 16 ∧ 1 ≤ keys ∧ keys ≤ cols.length from shaped_len HOK.out.2)
  have hz0 : ((chkT pg wd ⟨tn,cols,keys⟩ : Int) != 0) = false:=zz h0
  have H0:=Ld h0
  clear h0
  cases huk : unpB kb.data.toList with
  | none =>
    have HUK:=Ld huk
    have hze:=nz (unpErr_ne huk)
    have HRES:=Ld (rowR_nk (vb:=vb.data.toList) H0.out huk)
    clear huk
    cases huv : unpB vb.data.toList with
    | none =>
      have HUV:=Ld huv
      clear huv
      go_enter Tryz.func34,Tryz.ntmps34
      go_wp2_with (first
       | (go_at_call 27;go_must (refine (Check_rows_c pg wd A c ⟨tn,cols,keys⟩ _ (HR.out.below HW0.out) (cell_keep HC.out (Nat.le_refl _) HW0.out)).mono ?_;rintro e w1 ⟨rfl,hb1⟩;have HB1:=Ld (hb1.mono (show w.heap.size + 3 ≤ _ by simp));obtain ⟨⟨q0,q1⟩,⟨q2,q3,q4⟩,⟨q5,q6⟩,q7,q8⟩:=HBX.out _ HB1.out;have HW1:=Ld q8;clear hb1 q8))
       | (go_at_call 65;have h2x:=HB2.out;clear h2x;go_must (refine (Unpack_c vb w2).mono ?_;rintro e w3 ⟨hb,hm⟩;rw [HUV.out] at hm;have hm:=hm;subst hm;have HB3:=Ld (HB2.out.trans (hb.mono (show w.heap.size + 3 ≤ _ by omega)));have HG3:=Ld hb;clear q0 q1 q2 q3 q4 q5 q6 q7;obtain ⟨⟨q0,q1⟩,⟨q2,q3,q4⟩,⟨q5,q6⟩,q7,q8⟩:=HBX.out _ HB3.out;have HW3:=Ld q8;clear hb q8))
       | (go_at_call 65;go_must (refine (Unpack_c kb w1).mono ?_;rintro e w2 ⟨hb,hm⟩;rw [HUK.out] at hm;have hm:=hm;subst hm;have HB2:=Ld (HB1.out.trans (hb.mono (show w.heap.size + 3 ≤ _ by omega)));have HG2:=Ld hb;clear q0 q1 q2 q3 q4 q5 q6 q7;obtain ⟨⟨q0,q1⟩,⟨q2,q3,q4⟩,⟨q5,q6⟩,q7,q8⟩:=HBX.out _ HB2.out;have HW2:=Ld q8;clear hb q8)))
      have HQ:=Ld (fun W (h : Below w3.heap.size w3 W) => HBX.out W (HB3.out.trans (h.mono q7)))
      clear q0 q1 q2 q3 q4 q5 q6 q7
      refine wp_region_sched (S:=fun W => Below w3.heap.size w3 W) [(0,true),(1,true),(2,true),(3,true),(4,true),(5,true),(6,true),(7,true),(8,true),(9,true),(10,true),(11,true),(12,true),(13,true),(14,true),(15,true),(16,true),(17,true),(18,true),(19,true),(20,true),(21,true),(22,true),(23,true),(24,true),(25,true),(26,true),(27,true),(28,true),(29,true)] (by kernel_rfl) (by kernel_rfl) (by kernel_rfl) (fun _ _ d _ _ h => by cases d <;> exact h) (Below.refl _ _).drew ?_
      repeat (first
       | (apply sched_take;(exact rfl);rfl;(intro W hW;obtain ⟨⟨q0,q1⟩,⟨q2,q3,q4⟩,⟨q5,q6⟩,q7,q8⟩:=HQ.out W hW;clear q8;go_simp;(try with_reducible rfl));simp only [Act.put,List.setIfInBounds_toArray,List.set_cons_zero,List.set_cons_succ])
       | (apply sched_pass;(exact rfl);rfl;simp only [Act.put,List.setIfInBounds_toArray,List.set_cons_zero,List.set_cons_succ]))
      refine sched_done ?_
      go_wp2
      obtain ⟨_,_,_,_,q8⟩:=HQ.out _ (Below.refl _ _)
      go_ret2
      exact ⟨q8.drew,by rw [HRES.out];rfl⟩
    | some lv =>
      have HUV:=Ld huv
      clear huv
      go_enter Tryz.func34,Tryz.ntmps34
      go_wp2_with (first
       | (go_at_call 27;go_must (refine (Check_rows_c pg wd A c ⟨tn,cols,keys⟩ _ (HR.out.below HW0.out) (cell_keep HC.out (Nat.le_refl _) HW0.out)).mono ?_;rintro e w1 ⟨rfl,hb1⟩;have HB1:=Ld (hb1.mono (show w.heap.size + 3 ≤ _ by simp));obtain ⟨⟨q0,q1⟩,⟨q2,q3,q4⟩,⟨q5,q6⟩,q7,q8⟩:=HBX.out _ HB1.out;have HW1:=Ld q8;clear hb1 q8))
       | (go_at_call 65;have h2x:=HB2.out;clear h2x;go_must (refine (Unpack_c vb w2).mono ?_;rintro e w3 ⟨hb,hm⟩;rw [HUV.out] at hm;obtain ⟨L2,A2,c2,rfl,hd,hn,hO,hR,hK⟩:=hm;have HD2:=Ld hd;have HN2:=Ld hn;have HO2:=Ld hO;have HR2:=Ld hR;have HK2:=Ld hK;have HB3:=Ld (HB2.out.trans (hb.mono (show w.heap.size + 3 ≤ _ by omega)));have HG3:=Ld hb;clear q0 q1 q2 q3 q4 q5 q6 q7;obtain ⟨⟨q0,q1⟩,⟨q2,q3,q4⟩,⟨q5,q6⟩,q7,q8⟩:=HBX.out _ HB3.out;have HW3:=Ld q8;clear hb hd hn hO hR hK q8))
       | (go_at_call 65;go_must (refine (Unpack_c kb w1).mono ?_;rintro e w2 ⟨hb,hm⟩;rw [HUK.out] at hm;have hm:=hm;subst hm;have HB2:=Ld (HB1.out.trans (hb.mono (show w.heap.size + 3 ≤ _ by omega)));have HG2:=Ld hb;clear q0 q1 q2 q3 q4 q5 q6 q7;obtain ⟨⟨q0,q1⟩,⟨q2,q3,q4⟩,⟨q5,q6⟩,q7,q8⟩:=HBX.out _ HB2.out;have HW2:=Ld q8;clear hb q8)))
      have HQ:=Ld (fun W (h : Below w3.heap.size w3 W) => HBX.out W (HB3.out.trans (h.mono q7)))
      clear q0 q1 q2 q3 q4 q5 q6 q7
      refine wp_region_sched (S:=fun W => Below w3.heap.size w3 W) [(0,true),(1,true),(2,true),(3,true),(4,true),(5,true),(6,true),(7,true),(8,true),(9,true),(10,true),(11,true),(12,true),(13,true),(14,true),(15,true),(16,true),(17,true),(18,true),(19,true),(20,true),(21,true),(22,true),(23,true),(24,true),(25,true),(26,true),(27,true),(28,true),(29,true)] (by kernel_rfl) (by kernel_rfl) (by kernel_rfl) (fun _ _ d _ _ h => by cases d <;> exact h) (Below.refl _ _).drew ?_
      repeat (first
       | (apply sched_take;(exact rfl);rfl;(intro W hW;obtain ⟨⟨q0,q1⟩,⟨q2,q3,q4⟩,⟨q5,q6⟩,q7,q8⟩:=HQ.out W hW;clear q8;go_simp;(try with_reducible rfl));simp only [Act.put,List.setIfInBounds_toArray,List.set_cons_zero,List.set_cons_succ])
       | (apply sched_pass;(exact rfl);rfl;simp only [Act.put,List.setIfInBounds_toArray,List.set_cons_zero,List.set_cons_succ]))
      refine sched_done ?_
      go_wp2
      obtain ⟨_,_,_,_,q8⟩:=HQ.out _ (Below.refl _ _)
      go_ret2
      exact ⟨q8.drew,by rw [HRES.out];rfl⟩
  | some lk =>
    cases huv : unpB vb.data.toList with
    | none =>
      have HUK:=Ld huk
      have HUV:=Ld huv
      have hze:=nz (unpErr_ne huv)
      have HRES:=Ld (rowR_nv (kb:=kb.data.toList) H0.out huv)
      clear huk huv
      go_enter Tryz.func34,Tryz.ntmps34
      go_wp2_with (first
       | (go_at_call 27;go_must (refine (Check_rows_c pg wd A c ⟨tn,cols,keys⟩ _ (HR.out.below HW0.out) (cell_keep HC.out (Nat.le_refl _) HW0.out)).mono ?_;rintro e w1 ⟨rfl,hb1⟩;have HB1:=Ld (hb1.mono (show w.heap.size + 3 ≤ _ by simp));obtain ⟨⟨q0,q1⟩,⟨q2,q3,q4⟩,⟨q5,q6⟩,q7,q8⟩:=HBX.out _ HB1.out;have HW1:=Ld q8;clear hb1 q8))
       | (go_at_call 65;have h2x:=HB2.out;clear h2x;go_must (refine (Unpack_c vb w2).mono ?_;rintro e w3 ⟨hb,hm⟩;rw [HUV.out] at hm;have hm:=hm;subst hm;have HB3:=Ld (HB2.out.trans (hb.mono (show w.heap.size + 3 ≤ _ by omega)));have HG3:=Ld hb;clear q0 q1 q2 q3 q4 q5 q6 q7;obtain ⟨⟨q0,q1⟩,⟨q2,q3,q4⟩,⟨q5,q6⟩,q7,q8⟩:=HBX.out _ HB3.out;have HW3:=Ld q8;clear hb q8))
       | (go_at_call 65;go_must (refine (Unpack_c kb w1).mono ?_;rintro e w2 ⟨hb,hm⟩;rw [HUK.out] at hm;obtain ⟨L1,A1,c1,rfl,hd,hn,hO,hR,hK⟩:=hm;have HD1:=Ld hd;have HN1:=Ld hn;have HO1:=Ld hO;have HR1:=Ld hR;have HK1:=Ld hK;have HB2:=Ld (HB1.out.trans (hb.mono (show w.heap.size + 3 ≤ _ by omega)));have HG2:=Ld hb;clear q0 q1 q2 q3 q4 q5 q6 q7;obtain ⟨⟨q0,q1⟩,⟨q2,q3,q4⟩,⟨q5,q6⟩,q7,q8⟩:=HBX.out _ HB2.out;have HW2:=Ld q8;clear hb hd hn hO hR hK q8)))
      have HQ:=Ld (fun W (h : Below w3.heap.size w3 W) => HBX.out W (HB3.out.trans (h.mono q7)))
      clear q0 q1 q2 q3 q4 q5 q6 q7
      refine wp_region_sched (S:=fun W => Below w3.heap.size w3 W) [(0,true),(1,true),(2,true),(3,true),(4,true),(5,true),(6,true),(7,true),(8,true),(9,true),(10,true),(11,true),(12,true),(13,true),(14,true),(15,true),(16,true),(17,true),(18,true),(19,true),(20,true),(21,true),(22,true),(23,true),(24,true),(25,true),(26,true),(27,true),(28,true),(29,true)] (by kernel_rfl) (by kernel_rfl) (by kernel_rfl) (fun _ _ d _ _ h => by cases d <;> exact h) (Below.refl _ _).drew ?_
      repeat (first
       | (apply sched_take;(exact rfl);rfl;(intro W hW;obtain ⟨⟨q0,q1⟩,⟨q2,q3,q4⟩,⟨q5,q6⟩,q7,q8⟩:=HQ.out W hW;clear q8;go_simp;(try with_reducible rfl));simp only [Act.put,List.setIfInBounds_toArray,List.set_cons_zero,List.set_cons_succ])
       | (apply sched_pass;(exact rfl);rfl;simp only [Act.put,List.setIfInBounds_toArray,List.set_cons_zero,List.set_cons_succ]))
      refine sched_done ?_
      go_wp2
      obtain ⟨_,_,_,_,q8⟩:=HQ.out _ (Below.refl _ _)
      go_ret2
      exact ⟨q8.drew,by rw [HRES.out];rfl⟩
    | some lv =>
      have HUK:=Ld huk
      have HUV:=Ld huv
      clear huk huv
      go_enter Tryz.func34,Tryz.ntmps34
      go_wp2_with (first
       | (go_at_call 27;go_must (refine (Check_rows_c pg wd A c ⟨tn,cols,keys⟩ _ (HR.out.below HW0.out) (cell_keep HC.out (Nat.le_refl _) HW0.out)).mono ?_;rintro e w1 ⟨rfl,hb1⟩;have HB1:=Ld (hb1.mono (show w.heap.size + 3 ≤ _ by simp));obtain ⟨⟨q0,q1⟩,⟨q2,q3,q4⟩,⟨q5,q6⟩,q7,q8⟩:=HBX.out _ HB1.out;have HW1:=Ld q8;clear hb1 q8))
       | (go_at_call 65;have h2x:=HB2.out;clear h2x;go_must (refine (Unpack_c vb w2).mono ?_;rintro e w3 ⟨hb,hm⟩;rw [HUV.out] at hm;obtain ⟨L2,A2,c2,rfl,hd,hn,hO,hR,hK⟩:=hm;have HD2:=Ld hd;have HN2:=Ld hn;have HO2:=Ld hO;have HR2:=Ld hR;have HK2:=Ld hK;have HB3:=Ld (HB2.out.trans (hb.mono (show w.heap.size + 3 ≤ _ by omega)));have HG3:=Ld hb;clear q0 q1 q2 q3 q4 q5 q6 q7;obtain ⟨⟨q0,q1⟩,⟨q2,q3,q4⟩,⟨q5,q6⟩,q7,q8⟩:=HBX.out _ HB3.out;have HW3:=Ld q8;clear hb hd hn hO hR hK q8))
       | (go_at_call 65;go_must (refine (Unpack_c kb w1).mono ?_;rintro e w2 ⟨hb,hm⟩;rw [HUK.out] at hm;obtain ⟨L1,A1,c1,rfl,hd,hn,hO,hR,hK⟩:=hm;have HD1:=Ld hd;have HN1:=Ld hn;have HO1:=Ld hO;have HR1:=Ld hR;have HK1:=Ld hK;have HB2:=Ld (HB1.out.trans (hb.mono (show w.heap.size + 3 ≤ _ by omega)));have HG2:=Ld hb;clear q0 q1 q2 q3 q4 q5 q6 q7;obtain ⟨⟨q0,q1⟩,⟨q2,q3,q4⟩,⟨q5,q6⟩,q7,q8⟩:=HBX.out _ HB2.out;have HW2:=Ld q8;clear hb hd hn hO hR hK q8)))
      have hk1 : 1 ≤ keys ∧ keys ≤ 16:=by have:=HSL.out;omega
      obtain ⟨hk1,hk2⟩:=hk1
      have hwk : IntKind.i64.wrap (keys + 1) = keys + 1:=IntWalk.i64_in _ (by omega)
      have HLD:=Ld (show lk.length = L1.length by rw [← HD1.out,dataL_eq,List.length_map])
      by_cases hl : (L1.length : Int) = keys + 1
      ·have hl1 : ((L1.length : Int) != keys + 1) = false:=by rw [bne_eq_false_iff_eq];exact hl
       obtain ⟨x0,Lr,hL1⟩ : ∃ x0 Lr,L1 = x0 :: Lr:=by
        cases hL : L1 with
        | nil => rw [hL] at hl;simp at hl;omega
        | cons x0 Lr => exact ⟨x0,Lr,rfl⟩
       have HKD:=Ld (show lk = x0.data :: VI.dataL Lr by rw [← HD1.out,hL1,VI.dataL])
       have hLr : (Lr.length : Int) = keys:=by rw [hL1] at hl;simp at hl;omega
       have HLR:=Ld hLr
       obtain ⟨b1,o1,hA1⟩ : ∃ b o,A1 = some ⟨b,o,none⟩:=by obtain ⟨b,o,e,_⟩:=HR1.out.rd.2 (by omega);exact ⟨b,o,e⟩
       subst hA1
       have HI0:=Ld (fun W (h : Below w3.heap.size w3 W) => first_at ((HR1.out.below (HG3.out.trans (h.mono HG3.out.size))).rd) hL1)
       obtain ⟨k0,hk0⟩ : ∃ k0,x0.k = k0:=⟨_,rfl⟩
       obtain ⟨t0,ht0⟩ : ∃ t0,x0.t = t0:=⟨_,rfl⟩
       rw [hk0,ht0] at HI0
       have HRS:=Ld (rowR_some H0.out (by rw [HUK.out,HKD.out]) HUV.out)
       rw [data_k,data_t,hk0,ht0] at HRS
       have HL1:=Ld hL1
       have hl0 : 0 < L1.length:=by omega
       clear hk0 ht0 hL1 hl hLr
       by_cases hk5 : k0 = 5
       ·have hk5' : (k0 != 5) = false:=by rw [hk5];rfl
        by_cases htn : t0 = tn
        ·have hbn : (t0.toList == tn.toList) = true:=by rw [htn];exact beq_self_eq_true _
         have HRES0:=Ld (HRS.out.trans (if_neg (by rintro (h | h | h);exact h (by rw [dataL_eq,List.length_map];exact HLR.out);exact h hk5;exact h (by rw [htn]))))
         clear HRS hk5 htn
         have hlr0 : 0 < Lr.length:=by have:=HLR.out;omega
         have hl1s : L1.length - 1 = Lr.length:=by rw [HL1.out];simp
         obtain ⟨A3,hsl,hsr⟩:=slice_from (P:=Tryz.prog) 28 6 Tryz.underlying28 (fun W => by kernel_rfl) (some ⟨b1,o1,none⟩) L1.length c1 1 1 rfl (by omega) HR1.out.hc
         have HD3:=Ld (fun W (h : RdI W (some ⟨b1,o1,none⟩) c1 L1) => drop_rd h (by omega) (hsr W _ h.rd))
         rw [hl1s] at hsl
         have HLD3:=Ld (show L1.drop 1 = Lr by rw [HL1.out];rfl)
         rw [HLD3.out] at HD3
         have HR3:=Ld (HD3.out w3 (HR1.out.below HG3.out))
         obtain ⟨b3,o3,hA3⟩ : ∃ b o,A3 = some ⟨b,o,none⟩:=by obtain ⟨b,o,e,_⟩:=HR3.out.rd.2 hlr0;exact ⟨b,o,e⟩
         subst hA3
         obtain ⟨d3,hd3⟩ : ∃ d3,c1 - 1 = d3:=⟨_,rfl⟩
         rw [hd3] at hsl HR3
         clear hl1s hsr hd3 HD3
         have HQ:=Ld (fun W (h : Below w3.heap.size w3 W) => HBX.out W (HB3.out.trans (h.mono q7)))
         clear q0 q1 q2 q3 q4 q5 q6 q7
         refine wp_region_sched (S:=fun W => Below w3.heap.size w3 W) [(0,true),(1,true),(2,true),(3,true),(4,true),(5,true),(6,true),(7,true),(8,true),(9,true),(10,true),(11,true),(12,true),(13,true),(14,true),(15,true),(16,true),(17,true),(18,true),(19,true),(20,true),(21,true),(22,true),(23,true),(24,true),(25,true),(26,true),(27,true),(28,true),(29,true)] (by kernel_rfl) (by kernel_rfl) (by kernel_rfl) (fun _ _ d _ _ h => by cases d <;> exact h) (Below.refl _ _).drew ?_
         repeat (first
          | (apply sched_take;(exact rfl);rfl;(intro W hW;obtain ⟨⟨q0,q1⟩,⟨q2,q3,q4⟩,⟨q5,q6⟩,q7,q8⟩:=HQ.out W hW;obtain ⟨i0,i4,i6⟩:=HI0.out W hW;clear q8;go_simp;(try with_reducible rfl));simp only [Act.put,List.setIfInBounds_toArray,List.set_cons_zero,List.set_cons_succ])
          | (apply sched_pass;(exact rfl);rfl;simp only [Act.put,List.setIfInBounds_toArray,List.set_cons_zero,List.set_cons_succ]))
         refine sched_done ?_
         clear hwk
         have HR2X:=Ld (HR2.out.below (Below.refl w3.heap.size w3).drew)
         go_wp2_with (first
          | (go_at_call 66;go_must (refine (Clone_c b3 o3 d3 Lr w3.drew (HR3.out.below (Below.refl _ _).drew)).mono ?_;rintro e w4 ⟨v4,rfl,hO4,hb4⟩;have HO4:=Ld (show OwnI w4 w3.heap.size v4 Lr from hO4);have HG4:=Ld (show Below w3.heap.size w3 w4 from (Below.refl _ _).drew.trans hb4);have HR24:=Ld (HR2.out.below HG4.out);clear hO4 hb4))
          | (at_builtin;go_must (refine wpList_items (B:=w3.heap.size) (l:=Lr) (ys:=L2) rfl (.tmp 66) (.tmp 67) rfl HO4.out rfl rfl HR24.out.rd rfl HR24.out.hx (fun y hy => (HR2.out.hx y hy).blk.mono fun k hk e => by have:=(HO4.out.own.lt k e).1;omega) (by have:=HN1.out;have:=HN2.out;have:=HLR.out;omega) HG4.out.size ?_;intro v5 w5 hO5 hK5 _;have HO5:=Ld hO5;have HG5:=Ld (HG4.out.trans (hK5.below HG4.out.size (fun j hj e => by have:=(HO4.out.own.lt j e).1;omega)));clear hO5 hK5)))
         have hLR64 : (Lr ++ L2).length * 64 ≤ 140737488355328:=by have:=HN1.out;have:=HN2.out;have:=HLR.out;rw [List.length_append];omega
         obtain ⟨AR,cR,hv5,hRL⟩:=HO5.out.rdi hLR64
         subst hv5
         obtain ⟨LR,hLR⟩ : ∃ LR,Lr ++ L2 = LR:=⟨_,rfl⟩
         have HDR:=Ld (show VI.dataL LR = VI.dataL Lr ++ lv by rw [← hLR,← HD2.out,dataL_eq,dataL_eq,dataL_eq,List.map_append])
         have HBLK:=Ld (show ∀ x ∈ LR,BlkV (fun k => w.heap.size ≤ k) x from fun x hx => by
          rw [← hLR] at hx
          rcases List.mem_append.1 hx with hx | hx
          ·exact (HK1.out x (by rw [HL1.out];exact List.mem_cons_of_mem _ hx)).mono fun k hk => by have:=HW1.out.size;omega
          ·exact (HK2.out x hx).mono fun k hk => by have:=HW2.out.size;omega)
         have hkl : keys.toNat ≤ LR.length:=by have:=HLR.out;rw [← hLR,List.length_append];omega
         rw [hLR] at HO5 hRL ⊢
         have HRL:=Ld hRL
         clear hLR64 hLR hRL
         obtain ⟨bR,oR,hAR⟩ : ∃ b o,AR = some ⟨b,o,none⟩:=by obtain ⟨b,o,e,_⟩:=HRL.out.rd.2 (by omega);exact ⟨b,o,e⟩
         have hsl2:=slice_to (P:=Tryz.prog) 28 Tryz.underlying28 ⟨6,fun W => by kernel_rfl⟩ bR oR LR.length cR keys.toNat keys (by omega) (by have:=HRL.out.hc;omega)
         rw [← hAR] at hsl2
         have hkl2 : (LR.take keys.toNat).length = keys.toNat:=by rw [List.length_take];omega
         obtain ⟨LK,hLK⟩ : ∃ LK,LR.take keys.toNat = LK:=⟨_,rfl⟩
         rw [← hkl2,hLK] at hsl2
         have HRK:=Ld (show RdI w5.drew AR cR LK by rw [← hLK];exact take_rd (HRL.out.below (Below.refl _ _).drew) hkl)
         have HDK:=Ld (show VI.dataL LK = (VI.dataL Lr ++ lv).take keys.toNat by rw [← hLK,← HDR.out,dataL_eq,dataL_eq,List.map_take])
         clear hkl hkl2 hLK hAR
         have HW5:=Ld (show Below w.heap.size w w5 from HW3.out.trans (HG5.out.mono HW3.out.size))
         have HQ5:=Ld (fun W (h : Below w5.heap.size w5 W) => HQ.out W (HG5.out.trans (h.mono HG5.out.size)))
         rw [← HDK.out,← HDR.out] at HRES0
         obtain ⟨⟨kx,ke⟩,hkr⟩ : ∃ p,keyR pg wd ⟨tn,cols,keys⟩ (VI.dataL LK) = p:=⟨_,rfl⟩
         obtain ⟨⟨vx,ve⟩,hvr⟩ : ∃ p,valR pg wd ⟨tn,cols,keys⟩ (VI.dataL LR) = p:=⟨_,rfl⟩
         rw [hkr,hvr] at HRES0
         have HKR:=Ld hkr
         have HVR:=Ld hvr
         obtain ⟨KB,hKB⟩ : ∃ KB : ByteArray,(⟨kx.toArray⟩ : ByteArray) = KB:=⟨_,rfl⟩
         obtain ⟨VB,hVB⟩ : ∃ VB : ByteArray,(⟨vx.toArray⟩ : ByteArray) = VB:=⟨_,rfl⟩
         have HKX:=Ld (show kx = KB.toList by rw [← hKB,ByteArray.toList_eq])
         have HVX:=Ld (show vx = VB.toList by rw [← hVB,ByteArray.toList_eq])
         have HKB:=Ld hKB
         have HVB:=Ld hVB
         clear hkr hvr hKB hVB
         by_cases c1 : ke = 0
         ·by_cases c2 : ve = 0
          ·by_cases c3 : kx = kb.data.toList
           ·by_cases c4 : vx = vb.data.toList
            ·have HRES:=Ld (HRES0.out.trans (if_neg (by rintro (h | h | h | h);exact h c1;exact h c2;exact h c3;exact h c4)))
             have hz1:=zz c1
             have hz2:=zz c2
             have hx1 : (KB.toList == kb.toList) = true:=by rw [beq_iff_eq,← HKX.out,c3,ByteArray.toList_eq]
             have hx2 : (VB.toList == vb.toList) = true:=by rw [beq_iff_eq,← HVX.out,c4,ByteArray.toList_eq]
             clear c1 c2 c3 c4
             clear HR2X
             refine wp_region_sched (S:=fun W => Below w5.heap.size w5 W) [(0,true),(1,true),(2,true),(3,true),(4,true),(5,true),(6,false),(7,true),(8,true),(9,true),(10,true),(11,true)] (by kernel_rfl) (by kernel_rfl) (by kernel_rfl) (fun _ _ d _ _ h => by cases d <;> exact h) (Below.refl _ _).drew ?_
             repeat (first
              | (apply sched_take;(exact rfl);rfl;(intro W hW;obtain ⟨⟨q0,q1⟩,⟨q2,q3,q4⟩,⟨q5,q6⟩,q7,q8⟩:=HQ5.out W hW;clear q8;go_simp;(try with_reducible rfl));simp only [Act.put,List.setIfInBounds_toArray,List.set_cons_zero,List.set_cons_succ])
              | (apply sched_pass;(exact rfl);rfl;simp only [Act.put,List.setIfInBounds_toArray,List.set_cons_zero,List.set_cons_succ]))
             apply sched_run;(exact rfl);rfl;intro K hK;go_simp
             refine (KeyOf_c pg wd A c ⟨tn,cols,keys⟩ AR cR LK w5.drew (HR.out.below HW5.out.drew) HRK.out (cell_keep HC.out (Nat.le_refl _) HW5.out.drew)).mono ?_
             rintro e w6 ⟨rfl,hb6⟩
             rw [HKR.out]
             simp only [HKB.out]
             have HB6:=Ld (show Below w5.heap.size w5 w6 from (Below.refl _ _).drew.trans hb6)
             refine hK.out _ _ HB6.out (fun _ => ?_)
             clear hK K hb6
             try simp only [Act.put,List.setIfInBounds_toArray,List.set_cons_zero,List.set_cons_succ]
             repeat (first
              | (apply sched_take;(exact rfl);rfl;(intro W hW;obtain ⟨⟨q0,q1⟩,⟨q2,q3,q4⟩,⟨q5,q6⟩,q7,q8⟩:=HQ5.out W hW;clear q8;go_simp;(try with_reducible rfl));simp only [Act.put,List.setIfInBounds_toArray,List.set_cons_zero,List.set_cons_succ])
              | (apply sched_pass;(exact rfl);rfl;simp only [Act.put,List.setIfInBounds_toArray,List.set_cons_zero,List.set_cons_succ]))
             refine sched_done ?_
             obtain ⟨⟨q0,q1⟩,⟨q2,q3,q4⟩,⟨q5,q6⟩,q7,q8⟩:=HQ5.out w6 HB6.out
             have HW6:=Ld q8
             clear q8
             go_wp2_with (go_at_call 23;go_must (refine (ValOf_c pg wd A c ⟨tn,cols,keys⟩ AR cR LR w6 (HR.out.below HW6.out) (HRL.out.below HB6.out) (cell_keep HC.out (Nat.le_refl _) HW6.out)).mono ?_;rintro e w7 ⟨rfl,hb7⟩;rw [HVR.out];simp only [HVB.out];have HB7:=Ld (HB6.out.trans (hb7.mono HB6.out.size));clear q0 q1 q2 q3 q4 q5 q6 q7;obtain ⟨⟨q0,q1⟩,⟨q2,q3,q4⟩,⟨q5,q6⟩,q7,q8⟩:=HQ5.out w7 HB7.out;have HW7:=Ld q8;clear hb7 q8))
             go_ret2
             refine ⟨HW7.out,?_⟩
             rw [HRES.out]
             exact ⟨LR,AR,cR,rfl,rfl,⟨ownsRow_mono' (HO5.out.below HB7.out).own (by have:=HB1.out.size;have:=HW3.out.size;omega),(HO5.out.below HB7.out).rd,HO5.out.ne⟩,HRL.out.below HB7.out,HBLK.out⟩
            ·have HRES:=Ld (HRES0.out.trans (if_pos (.inr (.inr (.inr c4)))))
             have hz1:=zz c1
             have hz2:=zz c2
             have hx1 : (KB.toList == kb.toList) = true:=by rw [beq_iff_eq,← HKX.out,c3,ByteArray.toList_eq]
             have hx2 : (VB.toList == vb.toList) = false:=by rw [beq_eq_false_iff_ne,← HVX.out,ByteArray.toList_eq];exact c4
             clear c1 c2 c3 c4
             clear HR2X
             refine wp_region_sched (S:=fun W => Below w5.heap.size w5 W) [(0,true),(1,true),(2,true),(3,true),(4,true),(5,true),(6,false),(7,true),(8,true),(9,true),(10,true),(11,true)] (by kernel_rfl) (by kernel_rfl) (by kernel_rfl) (fun _ _ d _ _ h => by cases d <;> exact h) (Below.refl _ _).drew ?_
             repeat (first
              | (apply sched_take;(exact rfl);rfl;(intro W hW;obtain ⟨⟨q0,q1⟩,⟨q2,q3,q4⟩,⟨q5,q6⟩,q7,q8⟩:=HQ5.out W hW;clear q8;go_simp;(try with_reducible rfl));simp only [Act.put,List.setIfInBounds_toArray,List.set_cons_zero,List.set_cons_succ])
              | (apply sched_pass;(exact rfl);rfl;simp only [Act.put,List.setIfInBounds_toArray,List.set_cons_zero,List.set_cons_succ]))
             apply sched_run;(exact rfl);rfl;intro K hK;go_simp
             refine (KeyOf_c pg wd A c ⟨tn,cols,keys⟩ AR cR LK w5.drew (HR.out.below HW5.out.drew) HRK.out (cell_keep HC.out (Nat.le_refl _) HW5.out.drew)).mono ?_
             rintro e w6 ⟨rfl,hb6⟩
             rw [HKR.out]
             simp only [HKB.out]
             have HB6:=Ld (show Below w5.heap.size w5 w6 from (Below.refl _ _).drew.trans hb6)
             refine hK.out _ _ HB6.out (fun _ => ?_)
             clear hK K hb6
             try simp only [Act.put,List.setIfInBounds_toArray,List.set_cons_zero,List.set_cons_succ]
             repeat (first
              | (apply sched_take;(exact rfl);rfl;(intro W hW;obtain ⟨⟨q0,q1⟩,⟨q2,q3,q4⟩,⟨q5,q6⟩,q7,q8⟩:=HQ5.out W hW;clear q8;go_simp;(try with_reducible rfl));simp only [Act.put,List.setIfInBounds_toArray,List.set_cons_zero,List.set_cons_succ])
              | (apply sched_pass;(exact rfl);rfl;simp only [Act.put,List.setIfInBounds_toArray,List.set_cons_zero,List.set_cons_succ]))
             refine sched_done ?_
             obtain ⟨⟨q0,q1⟩,⟨q2,q3,q4⟩,⟨q5,q6⟩,q7,q8⟩:=HQ5.out w6 HB6.out
             have HW6:=Ld q8
             clear q8
             go_wp2_with (go_at_call 23;go_must (refine (ValOf_c pg wd A c ⟨tn,cols,keys⟩ AR cR LR w6 (HR.out.below HW6.out) (HRL.out.below HB6.out) (cell_keep HC.out (Nat.le_refl _) HW6.out)).mono ?_;rintro e w7 ⟨rfl,hb7⟩;rw [HVR.out];simp only [HVB.out];have HB7:=Ld (HB6.out.trans (hb7.mono HB6.out.size));clear q0 q1 q2 q3 q4 q5 q6 q7;obtain ⟨⟨q0,q1⟩,⟨q2,q3,q4⟩,⟨q5,q6⟩,q7,q8⟩:=HQ5.out w7 HB7.out;have HW7:=Ld q8;clear hb7 q8))
             go_ret2
             exact ⟨HW7.out,by rw [HRES.out];rfl⟩
           ·have HRES:=Ld (HRES0.out.trans (if_pos (.inr (.inr (.inl c3)))))
            have hz1:=zz c1
            have hz2:=zz c2
            have hx1 : (KB.toList == kb.toList) = false:=by rw [beq_eq_false_iff_ne,← HKX.out,ByteArray.toList_eq];exact c3
            clear c1 c2 c3
            clear HR2X
            refine wp_region_sched (S:=fun W => Below w5.heap.size w5 W) [(0,true),(1,true),(2,true),(3,true),(4,true),(5,true),(6,false),(7,true),(8,true),(9,true),(10,true),(11,true)] (by kernel_rfl) (by kernel_rfl) (by kernel_rfl) (fun _ _ d _ _ h => by cases d <;> exact h) (Below.refl _ _).drew ?_
            repeat (first
             | (apply sched_take;(exact rfl);rfl;(intro W hW;obtain ⟨⟨q0,q1⟩,⟨q2,q3,q4⟩,⟨q5,q6⟩,q7,q8⟩:=HQ5.out W hW;clear q8;go_simp;(try with_reducible rfl));simp only [Act.put,List.setIfInBounds_toArray,List.set_cons_zero,List.set_cons_succ])
             | (apply sched_pass;(exact rfl);rfl;simp only [Act.put,List.setIfInBounds_toArray,List.set_cons_zero,List.set_cons_succ]))
            apply sched_run;(exact rfl);rfl;intro K hK;go_simp
            refine (KeyOf_c pg wd A c ⟨tn,cols,keys⟩ AR cR LK w5.drew (HR.out.below HW5.out.drew) HRK.out (cell_keep HC.out (Nat.le_refl _) HW5.out.drew)).mono ?_
            rintro e w6 ⟨rfl,hb6⟩
            rw [HKR.out]
            simp only [HKB.out]
            have HB6:=Ld (show Below w5.heap.size w5 w6 from (Below.refl _ _).drew.trans hb6)
            refine hK.out _ _ HB6.out (fun _ => ?_)
            clear hK K hb6
            try simp only [Act.put,List.setIfInBounds_toArray,List.set_cons_zero,List.set_cons_succ]
            repeat (first
             | (apply sched_take;(exact rfl);rfl;(intro W hW;obtain ⟨⟨q0,q1⟩,⟨q2,q3,q4⟩,⟨q5,q6⟩,q7,q8⟩:=HQ5.out W hW;clear q8;go_simp;(try with_reducible rfl));simp only [Act.put,List.setIfInBounds_toArray,List.set_cons_zero,List.set_cons_succ])
             | (apply sched_pass;(exact rfl);rfl;simp only [Act.put,List.setIfInBounds_toArray,List.set_cons_zero,List.set_cons_succ]))
            refine sched_done ?_
            obtain ⟨⟨q0,q1⟩,⟨q2,q3,q4⟩,⟨q5,q6⟩,q7,q8⟩:=HQ5.out w6 HB6.out
            have HW6:=Ld q8
            clear q8
            go_wp2_with (go_at_call 23;go_must (refine (ValOf_c pg wd A c ⟨tn,cols,keys⟩ AR cR LR w6 (HR.out.below HW6.out) (HRL.out.below HB6.out) (cell_keep HC.out (Nat.le_refl _) HW6.out)).mono ?_;rintro e w7 ⟨rfl,hb7⟩;rw [HVR.out];simp only [HVB.out];have HB7:=Ld (HB6.out.trans (hb7.mono HB6.out.size));clear q0 q1 q2 q3 q4 q5 q6 q7;obtain ⟨⟨q0,q1⟩,⟨q2,q3,q4⟩,⟨q5,q6⟩,q7,q8⟩:=HQ5.out w7 HB7.out;have HW7:=Ld q8;clear hb7 q8))
            go_ret2
            exact ⟨HW7.out,by rw [HRES.out];rfl⟩
          ·have HRES:=Ld (HRES0.out.trans (if_pos (.inr (.inl c2))))
           have hz1:=zz c1
           have hz2:=nz c2
           clear c1 c2
           clear HR2X
           refine wp_region_sched (S:=fun W => Below w5.heap.size w5 W) [(0,true),(1,true),(2,true),(3,true),(4,true),(5,true),(6,false),(7,true),(8,true),(9,true),(10,true),(11,true)] (by kernel_rfl) (by kernel_rfl) (by kernel_rfl) (fun _ _ d _ _ h => by cases d <;> exact h) (Below.refl _ _).drew ?_
           repeat (first
            | (apply sched_take;(exact rfl);rfl;(intro W hW;obtain ⟨⟨q0,q1⟩,⟨q2,q3,q4⟩,⟨q5,q6⟩,q7,q8⟩:=HQ5.out W hW;clear q8;go_simp;(try with_reducible rfl));simp only [Act.put,List.setIfInBounds_toArray,List.set_cons_zero,List.set_cons_succ])
            | (apply sched_pass;(exact rfl);rfl;simp only [Act.put,List.setIfInBounds_toArray,List.set_cons_zero,List.set_cons_succ]))
           apply sched_run;(exact rfl);rfl;intro K hK;go_simp
           refine (KeyOf_c pg wd A c ⟨tn,cols,keys⟩ AR cR LK w5.drew (HR.out.below HW5.out.drew) HRK.out (cell_keep HC.out (Nat.le_refl _) HW5.out.drew)).mono ?_
           rintro e w6 ⟨rfl,hb6⟩
           rw [HKR.out]
           simp only [HKB.out]
           have HB6:=Ld (show Below w5.heap.size w5 w6 from (Below.refl _ _).drew.trans hb6)
           refine hK.out _ _ HB6.out (fun _ => ?_)
           clear hK K hb6
           try simp only [Act.put,List.setIfInBounds_toArray,List.set_cons_zero,List.set_cons_succ]
           repeat (first
            | (apply sched_take;(exact rfl);rfl;(intro W hW;obtain ⟨⟨q0,q1⟩,⟨q2,q3,q4⟩,⟨q5,q6⟩,q7,q8⟩:=HQ5.out W hW;clear q8;go_simp;(try with_reducible rfl));simp only [Act.put,List.setIfInBounds_toArray,List.set_cons_zero,List.set_cons_succ])
            | (apply sched_pass;(exact rfl);rfl;simp only [Act.put,List.setIfInBounds_toArray,List.set_cons_zero,List.set_cons_succ]))
           refine sched_done ?_
           obtain ⟨⟨q0,q1⟩,⟨q2,q3,q4⟩,⟨q5,q6⟩,q7,q8⟩:=HQ5.out w6 HB6.out
           have HW6:=Ld q8
           clear q8
           go_wp2_with (go_at_call 23;go_must (refine (ValOf_c pg wd A c ⟨tn,cols,keys⟩ AR cR LR w6 (HR.out.below HW6.out) (HRL.out.below HB6.out) (cell_keep HC.out (Nat.le_refl _) HW6.out)).mono ?_;rintro e w7 ⟨rfl,hb7⟩;rw [HVR.out];simp only [HVB.out];have HB7:=Ld (HB6.out.trans (hb7.mono HB6.out.size));clear q0 q1 q2 q3 q4 q5 q6 q7;obtain ⟨⟨q0,q1⟩,⟨q2,q3,q4⟩,⟨q5,q6⟩,q7,q8⟩:=HQ5.out w7 HB7.out;have HW7:=Ld q8;clear hb7 q8))
           go_ret2
           exact ⟨HW7.out,by rw [HRES.out];rfl⟩
         ·have HRES:=Ld (HRES0.out.trans (if_pos (.inl c1)))
          have hz1:=nz c1
          clear c1
          clear HR2X
          refine wp_region_sched (S:=fun W => Below w5.heap.size w5 W) [(0,true),(1,true),(2,true),(3,true),(4,true),(5,true),(6,false),(7,true),(8,true),(9,true),(10,true),(11,true)] (by kernel_rfl) (by kernel_rfl) (by kernel_rfl) (fun _ _ d _ _ h => by cases d <;> exact h) (Below.refl _ _).drew ?_
          repeat (first
           | (apply sched_take;(exact rfl);rfl;(intro W hW;obtain ⟨⟨q0,q1⟩,⟨q2,q3,q4⟩,⟨q5,q6⟩,q7,q8⟩:=HQ5.out W hW;clear q8;go_simp;(try with_reducible rfl));simp only [Act.put,List.setIfInBounds_toArray,List.set_cons_zero,List.set_cons_succ])
           | (apply sched_pass;(exact rfl);rfl;simp only [Act.put,List.setIfInBounds_toArray,List.set_cons_zero,List.set_cons_succ]))
          apply sched_run;(exact rfl);rfl;intro K hK;go_simp
          refine (KeyOf_c pg wd A c ⟨tn,cols,keys⟩ AR cR LK w5.drew (HR.out.below HW5.out.drew) HRK.out (cell_keep HC.out (Nat.le_refl _) HW5.out.drew)).mono ?_
          rintro e w6 ⟨rfl,hb6⟩
          rw [HKR.out]
          simp only [HKB.out]
          have HB6:=Ld (show Below w5.heap.size w5 w6 from (Below.refl _ _).drew.trans hb6)
          refine hK.out _ _ HB6.out (fun _ => ?_)
          clear hK K hb6
          try simp only [Act.put,List.setIfInBounds_toArray,List.set_cons_zero,List.set_cons_succ]
          repeat (first
           | (apply sched_take;(exact rfl);rfl;(intro W hW;obtain ⟨⟨q0,q1⟩,⟨q2,q3,q4⟩,⟨q5,q6⟩,q7,q8⟩:=HQ5.out W hW;clear q8;go_simp;(try with_reducible rfl));simp only [Act.put,List.setIfInBounds_toArray,List.set_cons_zero,List.set_cons_succ])
           | (apply sched_pass;(exact rfl);rfl;simp only [Act.put,List.setIfInBounds_toArray,List.set_cons_zero,List.set_cons_succ]))
          refine sched_done ?_
          obtain ⟨⟨q0,q1⟩,⟨q2,q3,q4⟩,⟨q5,q6⟩,q7,q8⟩:=HQ5.out w6 HB6.out
          have HW6:=Ld q8
          clear q8
          go_wp2_with (go_at_call 23;go_must (refine (ValOf_c pg wd A c ⟨tn,cols,keys⟩ AR cR LR w6 (HR.out.below HW6.out) (HRL.out.below HB6.out) (cell_keep HC.out (Nat.le_refl _) HW6.out)).mono ?_;rintro e w7 ⟨rfl,hb7⟩;rw [HVR.out];simp only [HVB.out];have HB7:=Ld (HB6.out.trans (hb7.mono HB6.out.size));clear q0 q1 q2 q3 q4 q5 q6 q7;obtain ⟨⟨q0,q1⟩,⟨q2,q3,q4⟩,⟨q5,q6⟩,q7,q8⟩:=HQ5.out w7 HB7.out;have HW7:=Ld q8;clear hb7 q8))
          go_ret2
          exact ⟨HW7.out,by rw [HRES.out];rfl⟩
        ·have HTN:=Ld htn
         have HRES:=Ld (HRS.out.trans (if_pos (.inr (.inr (fun e => HTN.out (bytes_eq e))))))
         have hbn : (t0.toList == tn.toList) = false:=by rw [beq_eq_false_iff_ne,ByteArray.toList_eq,ByteArray.toList_eq];exact fun e => htn (bytes_eq e)
         clear HRS hk5 htn
         have HQ:=Ld (fun W (h : Below w3.heap.size w3 W) => HBX.out W (HB3.out.trans (h.mono q7)))
         clear q0 q1 q2 q3 q4 q5 q6 q7
         refine wp_region_sched (S:=fun W => Below w3.heap.size w3 W) [(0,true),(1,true),(2,true),(3,true),(4,true),(5,true),(6,true),(7,true),(8,true),(9,true),(10,true),(11,true),(12,true),(13,true),(14,true),(15,true),(16,true),(17,true),(18,true),(19,true),(20,true),(21,true),(22,true),(23,true),(24,true),(25,true),(26,true),(27,true),(28,true),(29,true)] (by kernel_rfl) (by kernel_rfl) (by kernel_rfl) (fun _ _ d _ _ h => by cases d <;> exact h) (Below.refl _ _).drew ?_
         repeat (first
          | (apply sched_take;(exact rfl);rfl;(intro W hW;obtain ⟨⟨q0,q1⟩,⟨q2,q3,q4⟩,⟨q5,q6⟩,q7,q8⟩:=HQ.out W hW;obtain ⟨i0,i4,i6⟩:=HI0.out W hW;clear q8;go_simp;(try with_reducible rfl));simp only [Act.put,List.setIfInBounds_toArray,List.set_cons_zero,List.set_cons_succ])
          | (apply sched_pass;(exact rfl);rfl;simp only [Act.put,List.setIfInBounds_toArray,List.set_cons_zero,List.set_cons_succ]))
         refine sched_done ?_
         clear hwk
         go_wp2
         obtain ⟨_,_,_,_,q8⟩:=HQ.out _ (Below.refl _ _)
         go_ret2
         exact ⟨q8.drew,by rw [HRES.out];rfl⟩
       ·have hk5' : (k0 != 5) = true:=by rw [bne_iff_ne];exact hk5
        have HRES:=Ld (HRS.out.trans (if_pos (.inr (.inl hk5))))
        clear HRS hk5
        have HQ:=Ld (fun W (h : Below w3.heap.size w3 W) => HBX.out W (HB3.out.trans (h.mono q7)))
        clear q0 q1 q2 q3 q4 q5 q6 q7
        refine wp_region_sched (S:=fun W => Below w3.heap.size w3 W) [(0,true),(1,true),(2,true),(3,true),(4,true),(5,true),(6,true),(7,true),(8,true),(9,true),(10,true),(11,true),(12,true),(13,true),(14,true),(15,true),(16,true),(17,true),(18,true),(19,true),(20,true),(21,true),(22,true),(23,true),(24,true),(25,true),(26,true),(27,true),(28,true),(29,true)] (by kernel_rfl) (by kernel_rfl) (by kernel_rfl) (fun _ _ d _ _ h => by cases d <;> exact h) (Below.refl _ _).drew ?_
        repeat (first
         | (apply sched_take;(exact rfl);rfl;(intro W hW;obtain ⟨⟨q0,q1⟩,⟨q2,q3,q4⟩,⟨q5,q6⟩,q7,q8⟩:=HQ.out W hW;obtain ⟨i0,i4,i6⟩:=HI0.out W hW;clear q8;go_simp;(try with_reducible rfl));simp only [Act.put,List.setIfInBounds_toArray,List.set_cons_zero,List.set_cons_succ])
         | (apply sched_pass;(exact rfl);rfl;simp only [Act.put,List.setIfInBounds_toArray,List.set_cons_zero,List.set_cons_succ]))
        refine sched_done ?_
        clear hwk
        go_wp2
        obtain ⟨_,_,_,_,q8⟩:=HQ.out _ (Below.refl _ _)
        go_ret2
        exact ⟨q8.drew,by rw [HRES.out];rfl⟩
      ·have hl1 : ((L1.length : Int) != keys + 1) = true:=by rw [bne_iff_ne];exact hl
       have HRES:=Ld (rowR_len H0.out HUK.out HUV.out (show (lk.length : Int) ≠ keys + 1 by rw [HLD.out];exact hl))
       clear hl
       have HQ:=Ld (fun W (h : Below w3.heap.size w3 W) => HBX.out W (HB3.out.trans (h.mono q7)))
       clear q0 q1 q2 q3 q4 q5 q6 q7
       refine wp_region_sched (S:=fun W => Below w3.heap.size w3 W) [(0,true),(1,true),(2,true),(3,true),(4,true),(5,true),(6,true),(7,true),(8,true),(9,true),(10,true),(11,true),(12,true),(13,true),(14,true),(15,true),(16,true),(17,true),(18,true),(19,true),(20,true),(21,true),(22,true),(23,true),(24,true),(25,true),(26,true),(27,true),(28,true),(29,true)] (by kernel_rfl) (by kernel_rfl) (by kernel_rfl) (fun _ _ d _ _ h => by cases d <;> exact h) (Below.refl _ _).drew ?_
       repeat (first
        | (apply sched_take;(exact rfl);rfl;(intro W hW;obtain ⟨⟨q0,q1⟩,⟨q2,q3,q4⟩,⟨q5,q6⟩,q7,q8⟩:=HQ.out W hW;clear q8;go_simp;(try with_reducible rfl));simp only [Act.put,List.setIfInBounds_toArray,List.set_cons_zero,List.set_cons_succ])
        | (apply sched_pass;(exact rfl);rfl;simp only [Act.put,List.setIfInBounds_toArray,List.set_cons_zero,List.set_cons_succ]))
       refine sched_done ?_
       clear hwk
       go_wp2
       obtain ⟨_,_,_,_,q8⟩:=HQ.out _ (Below.refl _ _)
       go_ret2
       exact ⟨q8.drew,by rw [HRES.out];rfl⟩
 ·have hz0:=nz h0
  have HRES:=Ld (show rowR pg wd ⟨tn,cols,keys⟩ kb.data.toList vb.data.toList = (none,chkT pg wd ⟨tn,cols,keys⟩) by rw [rowR,if_pos h0])
  clear h0
  go_enter Tryz.func34,Tryz.ntmps34
  go_wp2_with (go_at_call 27;go_must (refine (Check_rows_c pg wd A c ⟨tn,cols,keys⟩ _ (HR.out.below HW0.out) (cell_keep HC.out (Nat.le_refl _) HW0.out)).mono ?_;rintro e w1 ⟨rfl,hb1⟩;have HB1:=Ld (hb1.mono (show w.heap.size + 3 ≤ _ by simp));obtain ⟨⟨q0,q1⟩,⟨q2,q3,q4⟩,⟨q5,q6⟩,q7,q8⟩:=HBX.out _ HB1.out;have HW1:=Ld q8;clear hb1 q8))
  go_ret2
  exact ⟨HW1.out,by rw [HRES.out];rfl⟩
end
section
open Go.RowKit
set_option maxHeartbeats 1000000
set_option maxRecDepth 100000
def cmpZ (a b : Int) : Int:=if a < b then -1 else if b < a then 1 else 0
mutual
def ordI : ItemD → ItemD → Int
 | .mk k b n f t l,.mk k' b' n' f' t' l' =>
   if k ≠ k' then cmpZ k k' else if k = 2 then (if b then 1 else 0) - (if b' then 1 else 0) else if k = 3 then cmpZ n n' else if k = 4 then cmpZ (keyU f) (keyU f')
   else if k = 5 then Lib.compareBytes t.data.toList t'.data.toList else ordL l l'
def ordL : List ItemD → List ItemD → Int
 | [],[] => 0
 | [],_ :: _ => -1
 | _ :: _,[] => 1
 | x :: l,y :: l' => if ordI x y ≠ 0 then ordI x y else ordL l l'
end
theorem ordI_mk (k n : Int) (b : Bool) (f : Nat) (t : ByteArray) (A : Option Addr) (c : Nat) (l : List VI) (k' n' : Int) (b' : Bool) (f' : Nat) (t' : ByteArray) (A' : Option Addr) (c' : Nat) (l' : List VI) :
 ordI (VI.mk k b n f t A c l).data (VI.mk k' b' n' f' t' A' c' l').data = if k ≠ k' then cmpZ k k' else if k = 2 then (if b then 1 else 0) - (if b' then 1 else 0) else if k = 3 then cmpZ n n' else if k = 4 then cmpZ (keyU f) (keyU f')
 else if k = 5 then Lib.compareBytes t.data.toList t'.data.toList else ordL (VI.dataL l) (VI.dataL l'):=by
 simp only [VI.data]
 rw [ordI]
theorem ordL_end (a b : List ItemD) (h : a.length = 0 ∨ b.length = 0) : ordL a b = cmpZ a.length b.length:=by
 cases a <;> cases b
 ·rfl
 ·simp [ordL,cmpZ] <;> omega
 ·simp [ordL,cmpZ] <;> omega
 ·simp at h
theorem ordL_drop (a b : List ItemD) (k : Nat) (h1 : k < a.length) (h2 : k < b.length) : ordL (a.drop k) (b.drop k) = if ordI a[k] b[k] ≠ 0 then ordI a[k] b[k] else ordL (a.drop (k + 1)) (b.drop (k + 1)):=by
 rw [List.drop_eq_getElem_cons h1,List.drop_eq_getElem_cons h2,ordL]
theorem cmpZ_cases (a b : Int) : (a < b ∧ cmpZ a b = -1) ∨ (¬ a < b ∧ b < a ∧ cmpZ a b = 1) ∨ (¬ a < b ∧ ¬ b < a ∧ cmpZ a b = 0):=by
 unfold cmpZ
 by_cases h : a < b
 ·exact .inl ⟨h,if_pos h⟩
 ·by_cases h' : b < a
  ·exact .inr (.inl ⟨h,h',by rw [if_neg h,if_pos h']⟩)
  ·exact .inr (.inr ⟨h,h',by rw [if_neg h,if_neg h']⟩)
theorem cmpK_c (a b : Int) (w : World) : Calls Tryz.prog 41 #[.int .u8 a,.int .u8 b] w fun e w' => e = .returned (.int .i64 (cmpZ a b)) ∧ w = w':=by
 have h3 : (a < b ∧ cmpZ a b = -1) ∨ (¬ a < b ∧ b < a ∧ cmpZ a b = 1) ∨ (¬ a < b ∧ ¬ b < a ∧ cmpZ a b = 0):=cmpZ_cases a b
 rcases h3 with ⟨h,hc⟩ | ⟨h,h',hc⟩ | ⟨h,h',hc⟩
 all_goals
  have HC:=Ld hc
  clear hc
  go_enter Tryz.func41,Tryz.ntmps41
  go_wp2
  go_ret
  exact ⟨ret_eq (by rw [HC.out];rfl),rfl⟩
theorem cmp64_c (a b : Int) (w : World) : Calls Tryz.prog 75 #[.int .i64 a,.int .i64 b] w fun e w' => e = .returned (.int .i64 (cmpZ a b)) ∧ w = w':=by
 have h3 : (a < b ∧ cmpZ a b = -1) ∨ (¬ a < b ∧ b < a ∧ cmpZ a b = 1) ∨ (¬ a < b ∧ ¬ b < a ∧ cmpZ a b = 0):=cmpZ_cases a b
 rcases h3 with ⟨h,hc⟩ | ⟨h,h',hc⟩ | ⟨h,h',hc⟩
 all_goals
  have HC:=Ld hc
  clear hc
  go_enter Tryz.func75,Tryz.ntmps75
  go_wp2
  go_ret
  exact ⟨ret_eq (by rw [HC.out];rfl),rfl⟩
theorem cmpI_c (a b : Int) (w : World) : Calls Tryz.prog 110 #[.int .i64 a,.int .i64 b] w fun e w' => e = .returned (.int .i64 (cmpZ a b)) ∧ w = w':=by
 have h3 : (a < b ∧ cmpZ a b = -1) ∨ (¬ a < b ∧ b < a ∧ cmpZ a b = 1) ∨ (¬ a < b ∧ ¬ b < a ∧ cmpZ a b = 0):=cmpZ_cases a b
 rcases h3 with ⟨h,hc⟩ | ⟨h,h',hc⟩ | ⟨h,h',hc⟩
 all_goals
  have HC:=Ld hc
  clear hc
  go_enter Tryz.func110,Tryz.ntmps110
  go_wp2
  go_ret
  exact ⟨ret_eq (by rw [HC.out];rfl),rfl⟩
theorem cmpU_c (a b : Nat) (w : World) : Calls Tryz.prog 76 #[.int .u64 a,.int .u64 b] w fun e w' => e = .returned (.int .i64 (cmpZ a b)) ∧ w = w':=by
 obtain ⟨x,hx⟩ : ∃ x : Int,(a : Int) = x:=⟨_,rfl⟩
 obtain ⟨y,hy⟩ : ∃ y : Int,(b : Int) = y:=⟨_,rfl⟩
 rw [hx,hy]
 clear hx hy a b
 have h3 : (x < y ∧ cmpZ x y = -1) ∨ (¬ x < y ∧ y < x ∧ cmpZ x y = 1) ∨ (¬ x < y ∧ ¬ y < x ∧ cmpZ x y = 0):=cmpZ_cases x y
 rcases h3 with ⟨h,hc⟩ | ⟨h,h',hc⟩ | ⟨h,h',hc⟩
 all_goals
  have HC:=Ld hc
  clear hc
  go_enter Tryz.func76,Tryz.ntmps76
  go_wp2
  go_ret
  exact ⟨ret_eq (by rw [HC.out];rfl),rfl⟩
theorem boxes_ii {w W : World} {a b c d e f a' b' c' d' e' f' : Value} (h : Below (w.heap.size + 2) ((w.alloc (.cells #[a,b,c,d,e,f] 54)).alloc (.cells #[a',b',c',d',e',f'] 54)) W) :
 W.heap[w.heap.size]? = some (.cells #[a,b,c,d,e,f] 54 (0,0)) ∧ W.heap[w.heap.size + 1]? = some (.cells #[a',b',c',d',e',f'] 54 (0,0)) ∧ w.heap.size + 1 < W.heap.size ∧ Below w.heap.size w W:=by
 have h0 : W.heap[w.heap.size]? = some (.cells #[a,b,c,d,e,f] 54 (0,0)):=(h.block _ (by omega)).trans ((((Below.refl _ _).alloc (Nat.le_refl _) _).block _ (by simp)).trans (heap_alloc_new w _))
 have h1 : W.heap[w.heap.size + 1]? = some (.cells #[a',b',c',d',e',f'] 54 (0,0)):=(h.block _ (by omega)).trans (alloc2_at w _ _)
 exact ⟨h0,h1,(Array.getElem?_eq_some_iff.1 h1).1,(two_below w _ _).trans (h.mono (by omega))⟩
end
section
open Go.RowKit
set_option maxHeartbeats 1000000
set_option maxRecDepth 100000
theorem held_side [Inhabited Thr] (w0 : World) : ∀ (s : Nat),
 (∀ (x y : VI) (w : World),SizeOf.sizeOf x ≤ s → RdV w0 x → RdV w0 y → Below w0.heap.size w0 w → Calls Tryz.prog 42 #[x.val,y.val] w fun e w' => e = .returned (.int .i64 (ordI x.data y.data)) ∧ Below w.heap.size w w') ∧
 (∀ (a b : List VI) (A B : Option Addr) (c d : Nat) (w : World),SizeOf.sizeOf a ≤ s → RdI w0 A c a → RdI w0 B d b → Below w0.heap.size w0 w → Calls Tryz.prog 79 #[.slice A a.length c,.slice B b.length d] w fun e w' => e = .returned (.int .i64 (ordL (VI.dataL a) (VI.dataL b))) ∧ Below w.heap.size w w'):=by
 intro s
 induction s with
 | zero => exact ⟨fun x y w hs => (by exfalso;cases x;simp at hs),fun a b A B c d w hs => (by exfalso;cases a <;> simp at hs)⟩
 | succ s ih =>
 have HIH:=Ld ih
 clear ih
 constructor
 ·intro x y w hs hX hY hB
  have HX:=Ld hX
  have HY:=Ld hY
  have HB:=Ld hB
  have HSX:=Ld (Nat.lt_of_lt_of_le (sz_list x) hs)
  clear hX hY hB hs
  rcases x with ⟨k,b,n,f,t,A,c,l⟩
  rcases y with ⟨k',b',n',f',t',A',c',l'⟩
  simp only [VI.val,VI.k,VI.b,VI.n,VI.f,VI.t,VI.A,VI.c,VI.l] at HSX ⊢
  have HE:=Ld (ordI_mk k n b f t A c l k' n' b' f' t' A' c' l')
  have HBX:=Ld (fun W (h : Below (w.heap.size + 2) ((w.alloc (.cells #[.int .u8 k,.bool b,.int .i64 n,.float .f64 f,.string t,.slice A l.length c] 54)).alloc (.cells #[.int .u8 k',.bool b',.int .i64 n',.float .f64 f',.string t',.slice A' l'.length c'] 54)) W) => boxes_ii h)
  by_cases hk : k = k'
  ·subst hk
   rw [if_neg (by simp)] at HE
   have hkk : (k != k) = false:=by simp
   by_cases h2 : k = 2
   ·subst h2
    rw [if_pos rfl] at HE
    cases b <;> cases b'
    all_goals
     go_enter Tryz.func42,Tryz.ntmps42
     go_wp2
     refine wp_region_sched (S:=fun W => Below (w.heap.size + 2) ((w.alloc (.cells #[.int .u8 2,.bool _,.int .i64 n,.float .f64 f,.string t,.slice A l.length c] 54)).alloc (.cells #[.int .u8 2,.bool _,.int .i64 n',.float .f64 f',.string t',.slice A' l'.length c'] 54)) W) [(0,true),(1,true),(3,true),(4,true),(2,false),(5,false),(6,true),(7,true)] (by kernel_rfl) (by kernel_rfl) (by kernel_rfl) (fun _ _ d _ _ h => by cases d <;> exact h) (Below.refl _ _).drew ?_
     repeat (apply sched_take;(exact rfl);rfl;(intro W hW;obtain ⟨g0,g1,q6,_⟩:=HBX.out W hW;obtain ⟨y0,y1,y2,y3,y4,y5⟩:=cells6 g0;obtain ⟨z0,z1,z2,z3,z4,z5⟩:=cells6 g1;go_simp;(try with_reducible rfl));simp only [Act.put,List.setIfInBounds_toArray,List.set_cons_zero,List.set_cons_succ])
     apply sched_run;(exact rfl);rfl;intro K hK;go_simp
     refine (truth_c _ _).mono ?_
     rintro e w2 ⟨rfl,rfl⟩
     refine hK.out _ _ (Below.refl _ _).drew (fun _ => ?_)
     clear hK K
     try simp only [Act.put,List.setIfInBounds_toArray,List.set_cons_zero,List.set_cons_succ]
     apply sched_run;(exact rfl);rfl;intro K hK;go_simp
     refine (truth_c _ _).mono ?_
     rintro e w2 ⟨rfl,rfl⟩
     refine hK.out _ _ (Below.refl _ _).drew (fun _ => ?_)
     clear hK K
     try simp only [Act.put,List.setIfInBounds_toArray,List.set_cons_zero,List.set_cons_succ]
     repeat (apply sched_take;(exact rfl);rfl;(intro W hW;obtain ⟨g0,g1,q6,_⟩:=HBX.out W hW;obtain ⟨y0,y1,y2,y3,y4,y5⟩:=cells6 g0;obtain ⟨z0,z1,z2,z3,z4,z5⟩:=cells6 g1;go_simp;(try with_reducible rfl));simp only [Act.put,List.setIfInBounds_toArray,List.set_cons_zero,List.set_cons_succ])
     refine sched_done ?_
     go_wp2
     go_ret
     exact ⟨ret_eq (by rw [HE.out];rfl),(two_below w _ _).drew⟩
   ·rw [if_neg h2] at HE
    by_cases h3 : k = 3
    ·subst h3
     rw [if_pos rfl] at HE
     clear h2
     go_enter Tryz.func42,Tryz.ntmps42
     go_wp2_with (go_at_call 75;go_must (refine (cmp64_c n n' _).mono ?_;rintro e w2 ⟨rfl,rfl⟩))
     go_ret
     exact ⟨ret_eq (by rw [HE.out];rfl),two_below w _ _⟩
    ·rw [if_neg h3] at HE
     by_cases h4 : k = 4
     ·subst h4
      rw [if_pos rfl] at HE
      clear h2 h3
      go_enter Tryz.func42,Tryz.ntmps42
      go_wp2
      refine wp_region_sched (S:=fun W => Below (w.heap.size + 2) ((w.alloc (.cells #[.int .u8 4,.bool b,.int .i64 n,.float .f64 f,.string t,.slice A l.length c] 54)).alloc (.cells #[.int .u8 4,.bool b',.int .i64 n',.float .f64 f',.string t',.slice A' l'.length c'] 54)) W) [(0,true),(1,true),(3,true),(4,true),(2,false),(5,false),(6,false),(7,true)] (by kernel_rfl) (by kernel_rfl) (by kernel_rfl) (fun _ _ d _ _ h => by cases d <;> exact h) (Below.refl _ _).drew ?_
      repeat (apply sched_take;(exact rfl);rfl;(intro W hW;obtain ⟨g0,g1,q6,_⟩:=HBX.out W hW;obtain ⟨y0,y1,y2,y3,y4,y5⟩:=cells6 g0;obtain ⟨z0,z1,z2,z3,z4,z5⟩:=cells6 g1;go_simp;(try with_reducible rfl));simp only [Act.put,List.setIfInBounds_toArray,List.set_cons_zero,List.set_cons_succ])
      apply sched_run;(exact rfl);rfl;intro K hK;go_simp
      refine (keyU_c f HX.out.hf _).mono ?_
      rintro e w2 ⟨rfl,rfl⟩
      refine hK.out _ _ (Below.refl _ _).drew (fun _ => ?_)
      clear hK K
      try simp only [Act.put,List.setIfInBounds_toArray,List.set_cons_zero,List.set_cons_succ]
      apply sched_run;(exact rfl);rfl;intro K hK;go_simp
      refine (keyU_c f' HY.out.hf _).mono ?_
      rintro e w2 ⟨rfl,rfl⟩
      refine hK.out _ _ (Below.refl _ _).drew (fun _ => ?_)
      clear hK K
      try simp only [Act.put,List.setIfInBounds_toArray,List.set_cons_zero,List.set_cons_succ]
      apply sched_run;(exact rfl);rfl;intro K hK;go_simp
      refine (cmpU_c (keyU f) (keyU f') _).mono ?_
      rintro e w2 ⟨rfl,rfl⟩
      refine hK.out _ _ (Below.refl _ _).drew (fun _ => ?_)
      clear hK K
      try simp only [Act.put,List.setIfInBounds_toArray,List.set_cons_zero,List.set_cons_succ]
      repeat (apply sched_take;(exact rfl);rfl;(intro W hW;obtain ⟨g0,g1,q6,_⟩:=HBX.out W hW;obtain ⟨y0,y1,y2,y3,y4,y5⟩:=cells6 g0;obtain ⟨z0,z1,z2,z3,z4,z5⟩:=cells6 g1;go_simp;(try with_reducible rfl));simp only [Act.put,List.setIfInBounds_toArray,List.set_cons_zero,List.set_cons_succ])
      refine sched_done ?_
      go_wp2
      go_ret
      exact ⟨ret_eq (by rw [HE.out];rfl),(two_below w _ _).drew⟩
     ·rw [if_neg h4] at HE
      by_cases h5 : k = 5
      ·subst h5
       rw [if_pos rfl] at HE
       clear h2 h3 h4
       go_enter Tryz.func42,Tryz.ntmps42
       go_wp2_with (go_at_call 78;go_must (refine (Tryz.strings_Compare t t' _).mono ?_;rintro e w2 ⟨rfl,rfl⟩))
       go_ret
       exact ⟨ret_eq (by rw [HE.out];rfl),two_below w _ _⟩
      ·rw [if_neg h5] at HE
       have e2 : (k == 2) = false:=by simpa using h2
       have e3 : (k == 3) = false:=by simpa using h3
       have e4 : (k == 4) = false:=by simpa using h4
       have e5 : (k == 5) = false:=by simpa using h5
       clear h2 h3 h4 h5
       go_enter Tryz.func42,Tryz.ntmps42
       go_wp2_with (go_at_call 79;go_must (refine (HIH.out.2 l l' A A' c c' _ (by have:=HSX.out;omega) HX.out.list HY.out.list (HB.out.trans ((two_below w _ _).mono HB.out.size))).mono ?_;rintro e w2 ⟨rfl,hb2⟩;have HB2:=Ld hb2;clear hb2))
       go_ret
       exact ⟨ret_eq (by rw [HE.out];rfl),(two_below w _ _).trans (HB2.out.mono (by simp;omega))⟩
  ·have hkk : (k != k') = true:=by simpa using hk
   rw [if_pos hk] at HE
   clear hk
   go_enter Tryz.func42,Tryz.ntmps42
   go_wp2_with (go_at_call 41;go_must (refine (cmpK_c k k' _).mono ?_;rintro e w2 ⟨rfl,rfl⟩))
   go_ret
   exact ⟨ret_eq (by rw [HE.out];rfl),two_below w _ _⟩
 ·intro a b A B c d w hs hA hB hW
  have HA:=Ld hA
  have HBB:=Ld hB
  have HW:=Ld hW
  have HS:=Ld hs
  have hla:=hA.hb
  have hlb:=hB.hb
  have HDA:=Ld (show (VI.dataL a).length = a.length by rw [dataL_eq,List.length_map])
  have HDB:=Ld (show (VI.dataL b).length = b.length by rw [dataL_eq,List.length_map])
  clear hA hB hW hs
  obtain ⟨m,hm⟩ : ∃ m : Nat,m = min a.length b.length:=⟨_,rfl⟩
  have hma : m ≤ a.length:=by omega
  have hmb : m ≤ b.length:=by omega
  have HM:=Ld hm
  have hmin : ∀ W,(Builtin.min_ #[3,3] 3 #[.int .i64 a.length,.int .i64 b.length]).run Tryz.prog W = .ok (.int .i64 m) W:=by
   intro W
   rw [run_min_int2]
   congr 2
   split <;> omega
  clear hm
  go_enter Tryz.func79,Tryz.ntmps79
  go_wp2
  go_loopw [12] (fun i wr => ∃ k : Nat,k ≤ m ∧ i = .int .i64 k ∧ Hid (ordL (VI.dataL a) (VI.dataL b) = ordL ((VI.dataL a).drop k) ((VI.dataL b).drop k)) ∧ Hid (Below w.heap.size w wr)) (fun i _ => m - (intOf i).toNat)
  case atStart => exact ⟨0,Nat.zero_le _,rfl,Ld rfl,Ld (Below.refl _ _)⟩
  case round =>
   obtain ⟨k,hk,rfl,ho,hB⟩:=hrel
   by_cases hlt : k < m
   ·have HWr:=Ld (HW.out.trans (hB.out.mono HW.out.size))
    have HAr:=Ld (HA.out.below HWr.out)
    have HBr:=Ld (HBB.out.below HWr.out)
    have hka : k < a.length:=by omega
    have hkb : k < b.length:=by omega
    obtain ⟨ab,ao,rfl⟩ : ∃ ab ao,A = some ⟨ab,ao,none⟩:=by obtain ⟨p,o,e,_⟩:=HAr.out.rd.2 (by omega);exact ⟨p,o,e⟩
    obtain ⟨bb,bo,rfl⟩ : ∃ ab ao,B = some ⟨ab,ao,none⟩:=by obtain ⟨p,o,e,_⟩:=HBr.out.rd.2 (by omega);exact ⟨p,o,e⟩
    have HOD:=Ld (ordL_drop (VI.dataL a) (VI.dataL b) k (by rw [HDA.out];exact hka) (by rw [HDB.out];exact hkb))
    rw [data_at a k hka,data_at b k hkb] at HOD
    have HXA:=Ld (HA.out.hx _ (List.getElem_mem hka))
    have HXB:=Ld (HBB.out.hx _ (List.getElem_mem hkb))
    have HSA:=Ld (sz_lt (List.getElem_mem hka))
    have HQ:=Ld (fun W (h : Below wr.heap.size wr W) => And.intro (item_at (HAr.out.below h).rd hka) (item_at (HBr.out.below h).rd hkb))
    obtain ⟨x,hx⟩ : ∃ x,a[k] = x:=⟨_,rfl⟩
    obtain ⟨y,hy⟩ : ∃ y,b[k] = y:=⟨_,rfl⟩
    rw [hx] at HOD HXA HSA
    rw [hy] at HOD HXB
    simp only [hx,hy] at HQ
    clear hx hy
    have HREC:=Ld (fun W (h : Below w0.heap.size w0 W) => HIH.out.1 x y W (by have:=HSA.out;have:=HS.out;omega) HXA.out HXB.out h)
    obtain ⟨oi,hoi⟩ : ∃ oi,ordI x.data y.data = oi:=⟨_,rfl⟩
    rw [hoi] at HOD
    simp only [hoi] at HREC
    clear hoi
    rcases x with ⟨xk,xb,xn,xf,xt,xA,xc,xl⟩
    rcases y with ⟨yk,yb,yn,yf,yt,yA,yc,yl⟩
    simp only [VI.val,VI.k,VI.b,VI.n,VI.f,VI.t,VI.A,VI.c,VI.l] at HQ HREC
    go_wp2
    refine wp_region_sched (S:=fun W => Below wr.heap.size wr W) [(0,true),(1,true),(2,true),(3,true),(4,true),(5,true),(6,true),(7,true),(8,false),(9,true)] (by kernel_rfl) (by kernel_rfl) (by kernel_rfl) (fun _ _ d _ _ h => by cases d <;> exact h) (Below.refl _ _).drew ?_
    repeat (apply sched_take;(exact rfl);rfl;(intro W hW;obtain ⟨⟨y0,y1,y2,y3,y4,y5⟩,⟨z0,z1,z2,z3,z4,z5⟩⟩:=HQ.out W hW;go_simp;(try with_reducible rfl));simp only [Act.put,List.setIfInBounds_toArray,List.set_cons_zero,List.set_cons_succ])
    apply sched_run;(exact rfl);rfl;intro K hK;go_simp
    refine (HREC.out _ (HWr.out.drew)).mono ?_
    rintro e w2 ⟨rfl,hb2⟩
    have HB2:=Ld (show Below wr.heap.size wr w2 from (Below.refl _ _).drew.trans hb2)
    refine hK.out _ _ HB2.out (fun _ => ?_)
    clear hK K hb2
    try simp only [Act.put,List.setIfInBounds_toArray,List.set_cons_zero,List.set_cons_succ]
    repeat (apply sched_take;(exact rfl);rfl;(intro W hW;go_simp;(try with_reducible rfl));simp only [Act.put,List.setIfInBounds_toArray,List.set_cons_zero,List.set_cons_succ])
    refine sched_done ?_
    go_wp2
    ·have hne:=‹(oi != 0) = true›
     go_ret
     exact ⟨ret_eq (by rw [ho.out,HOD.out,if_pos (by simpa using hne)];rfl),hB.out.trans (HB2.out.mono hB.out.size)⟩
    ·have hne:=‹(oi != 0) = false›
     refine ⟨⟨k + 1,by omega,by go_num,Ld (by rw [ho.out,HOD.out,if_neg (by simpa using hne)]),Ld (hB.out.trans (HB2.out.mono hB.out.size))⟩,by simp [intOf];omega⟩
   ·have HEND:=Ld (ordL_end ((VI.dataL a).drop k) ((VI.dataL b).drop k) (by rw [List.length_drop,List.length_drop,HDA.out,HDB.out];have:=HM.out;omega))
    have HCM:=Ld (show cmpZ ((VI.dataL a).drop k).length ((VI.dataL b).drop k).length = cmpZ a.length b.length by
     rw [List.length_drop,List.length_drop,HDA.out,HDB.out];have:=HM.out;unfold cmpZ;repeat (first | omega | (split <;> first | omega | skip)))
    go_wp2_with (go_at_call 110;go_must (refine (cmpI_c a.length b.length _).mono ?_;rintro e w2 ⟨rfl,rfl⟩))
    go_ret
    exact ⟨ret_eq (by rw [ho.out,HEND.out,HCM.out];rfl),hB.out⟩
end
section
open Go.RowKit
set_option maxHeartbeats 1000000
set_option maxRecDepth 100000
def cmpI (x y : ItemD) : Int:=if chkL [x] ≠ 0 ∨ chkL [y] ≠ 0 then cmpZ x.k y.k else ordI x y
theorem Compare_c [Inhabited Thr] (x y : VI) (w : World) (hX : RdV w x) (hY : RdV w y) : Calls Tryz.prog 18 #[x.val,y.val] w fun e w' => e = .returned (.int .i64 (cmpI x.data y.data)) ∧ Below w.heap.size w w':=by
 have HX:=Ld hX
 have HY:=Ld hY
 clear hX hY
 rcases x with ⟨k,b,n,f,t,A,c,l⟩
 rcases y with ⟨k',b',n',f',t',A',c',l'⟩
 have e1 : VI.dataL [(VI.mk k b n f t A c l)] = [(VI.mk k b n f t A c l).data]:=by simp [VI.dataL]
 have e2 : VI.dataL [(VI.mk k' b' n' f' t' A' c' l')] = [(VI.mk k' b' n' f' t' A' c' l').data]:=by simp [VI.dataL]
 have HE:=Ld (show cmpI (VI.mk k b n f t A c l).data (VI.mk k' b' n' f' t' A' c' l').data = if chkL (VI.dataL [(VI.mk k b n f t A c l)]) ≠ 0 ∨ chkL (VI.dataL [(VI.mk k' b' n' f' t' A' c' l')]) ≠ 0 then cmpZ k k' else ordI (VI.mk k b n f t A c l).data (VI.mk k' b' n' f' t' A' c' l').data by rw [cmpI,data_k,data_k,e1,e2];rfl)
 have HBX:=Ld (fun W (h : Below (w.heap.size + 2) ((w.alloc (.cells #[.int .u8 k,.bool b,.int .i64 n,.float .f64 f,.string t,.slice A l.length c] 54)).alloc (.cells #[.int .u8 k',.bool b',.int .i64 n',.float .f64 f',.string t',.slice A' l'.length c'] 54)) W) => boxes_ii h)
 have HRX:=Ld (one_rd HX.out ((w.alloc (.cells #[.int .u8 k,.bool b,.int .i64 n,.float .f64 f,.string t,.slice A l.length c] 54)).alloc (.cells #[.int .u8 k',.bool b',.int .i64 n',.float .f64 f',.string t',.slice A' l'.length c'] 54)) (two_below w _ _) (g:=w.heap.size + 1 + 1) (by simp) rfl)
 clear e1 e2
 simp only [VI.val,VI.k,VI.b,VI.n,VI.f,VI.t,VI.A,VI.c,VI.l]
 by_cases h1 : chkL (VI.dataL [(VI.mk k b n f t A c l)]) = 0
 ·have hz1:=zz h1
  by_cases h2 : chkL (VI.dataL [(VI.mk k' b' n' f' t' A' c' l')]) = 0
  ·have hz2:=zz h2
   rw [if_neg (by rintro (h | h);exact h h1;exact h h2)] at HE
   clear h1 h2
   go_enter Tryz.func18,Tryz.ntmps18
   go_wp2_with (first
    | (go_at_call 29;have h2x:=HB2.out;clear h2x;go_must (have HRY:=Ld (one_rd HY.out w2 HW2.out (g:=w2.heap.size) rfl rfl);refine (Check_c _ 1 [(VI.mk k' b' n' f' t' A' c' l')] _ HRY.out).mono ?_;rintro e w3 ⟨rfl,hb3⟩;have HB3:=Ld ((HB2.out.trans (((Below.refl w2.heap.size w2).alloc (Nat.le_refl _) (.cells #[.int .u8 k',.bool b',.int .i64 n',.float .f64 f',.string t',.slice A' l'.length c'] 54)).mono (show w.heap.size + 2 ≤ _ by omega))).trans (hb3.mono (show w.heap.size + 2 ≤ _ by simp;omega)));clear y0 y1 y2 y3 y4 y5 z0 z1 z2 z3 z4 z5 q6;obtain ⟨g0,g1,q6,q7⟩:=HBX.out _ HB3.out;obtain ⟨y0,y1,y2,y3,y4,y5⟩:=cells6 g0;obtain ⟨z0,z1,z2,z3,z4,z5⟩:=cells6 g1;have HW3:=Ld q7;clear hb3 g0 g1 q7))
    | (go_at_call 29;go_must (refine (Check_c _ 1 [(VI.mk k b n f t A c l)] _ HRX.out).mono ?_;rintro e w2 ⟨rfl,hb2⟩;have HB2:=Ld (((Below.refl _ _).alloc (Nat.le_refl _) (.cells #[.int .u8 k,.bool b,.int .i64 n,.float .f64 f,.string t,.slice A l.length c] 54)).mono (show w.heap.size + 2 ≤ ((w.alloc (.cells #[.int .u8 k,.bool b,.int .i64 n,.float .f64 f,.string t,.slice A l.length c] 54)).alloc (.cells #[.int .u8 k',.bool b',.int .i64 n',.float .f64 f',.string t',.slice A' l'.length c'] 54)).heap.size by simp) |>.trans (hb2.mono (by simp)));obtain ⟨g0,g1,q6,q7⟩:=HBX.out _ HB2.out;obtain ⟨y0,y1,y2,y3,y4,y5⟩:=cells6 g0;obtain ⟨z0,z1,z2,z3,z4,z5⟩:=cells6 g1;have HW2:=Ld q7;clear hb2 g0 g1 q7))
    | (go_at_call 42;go_must (refine ((held_side w _).1 (VI.mk k b n f t A c l) (VI.mk k' b' n' f' t' A' c' l') _ (Nat.le_refl _) HX.out HY.out HW3.out).mono ?_;rintro e w4 ⟨rfl,hb4⟩;have HB4:=Ld (HW3.out.trans (hb4.mono HW3.out.size));clear hb4)))
   go_ret
   exact ⟨ret_eq (by rw [HE.out];rfl),HB4.out⟩
  ·have hz2:=nz h2
   rw [if_pos (.inr h2)] at HE
   clear h1 h2
   go_enter Tryz.func18,Tryz.ntmps18
   go_wp2_with (first
    | (go_at_call 29;have h2x:=HB2.out;clear h2x;go_must (have HRY:=Ld (one_rd HY.out w2 HW2.out (g:=w2.heap.size) rfl rfl);refine (Check_c _ 1 [(VI.mk k' b' n' f' t' A' c' l')] _ HRY.out).mono ?_;rintro e w3 ⟨rfl,hb3⟩;have HB3:=Ld ((HB2.out.trans (((Below.refl w2.heap.size w2).alloc (Nat.le_refl _) (.cells #[.int .u8 k',.bool b',.int .i64 n',.float .f64 f',.string t',.slice A' l'.length c'] 54)).mono (show w.heap.size + 2 ≤ _ by omega))).trans (hb3.mono (show w.heap.size + 2 ≤ _ by simp;omega)));clear y0 y1 y2 y3 y4 y5 z0 z1 z2 z3 z4 z5 q6;obtain ⟨g0,g1,q6,q7⟩:=HBX.out _ HB3.out;obtain ⟨y0,y1,y2,y3,y4,y5⟩:=cells6 g0;obtain ⟨z0,z1,z2,z3,z4,z5⟩:=cells6 g1;have HW3:=Ld q7;clear hb3 g0 g1 q7))
    | (go_at_call 29;go_must (refine (Check_c _ 1 [(VI.mk k b n f t A c l)] _ HRX.out).mono ?_;rintro e w2 ⟨rfl,hb2⟩;have HB2:=Ld (((Below.refl _ _).alloc (Nat.le_refl _) (.cells #[.int .u8 k,.bool b,.int .i64 n,.float .f64 f,.string t,.slice A l.length c] 54)).mono (show w.heap.size + 2 ≤ ((w.alloc (.cells #[.int .u8 k,.bool b,.int .i64 n,.float .f64 f,.string t,.slice A l.length c] 54)).alloc (.cells #[.int .u8 k',.bool b',.int .i64 n',.float .f64 f',.string t',.slice A' l'.length c'] 54)).heap.size by simp) |>.trans (hb2.mono (by simp)));obtain ⟨g0,g1,q6,q7⟩:=HBX.out _ HB2.out;obtain ⟨y0,y1,y2,y3,y4,y5⟩:=cells6 g0;obtain ⟨z0,z1,z2,z3,z4,z5⟩:=cells6 g1;have HW2:=Ld q7;clear hb2 g0 g1 q7))
    | (go_at_call 41;go_must (refine (cmpK_c k k' _).mono ?_;rintro e w4 ⟨rfl,rfl⟩)))
   go_ret
   exact ⟨ret_eq (by rw [HE.out];rfl),HW3.out⟩
 ·have hz1:=nz h1
  rw [if_pos (.inl h1)] at HE
  clear h1
  go_enter Tryz.func18,Tryz.ntmps18
  go_wp2_with (first
   | (go_at_call 29;go_must (refine (Check_c _ 1 [(VI.mk k b n f t A c l)] _ HRX.out).mono ?_;rintro e w2 ⟨rfl,hb2⟩;have HB2:=Ld (((Below.refl _ _).alloc (Nat.le_refl _) (.cells #[.int .u8 k,.bool b,.int .i64 n,.float .f64 f,.string t,.slice A l.length c] 54)).mono (show w.heap.size + 2 ≤ ((w.alloc (.cells #[.int .u8 k,.bool b,.int .i64 n,.float .f64 f,.string t,.slice A l.length c] 54)).alloc (.cells #[.int .u8 k',.bool b',.int .i64 n',.float .f64 f',.string t',.slice A' l'.length c'] 54)).heap.size by simp) |>.trans (hb2.mono (by simp)));obtain ⟨g0,g1,q6,q7⟩:=HBX.out _ HB2.out;obtain ⟨y0,y1,y2,y3,y4,y5⟩:=cells6 g0;obtain ⟨z0,z1,z2,z3,z4,z5⟩:=cells6 g1;have HW2:=Ld q7;clear hb2 g0 g1 q7))
   | (go_at_call 41;go_must (refine (cmpK_c k k' _).mono ?_;rintro e w4 ⟨rfl,rfl⟩)))
  go_ret
  exact ⟨ret_eq (by rw [HE.out];rfl),HW2.out⟩
end
end Go.Proofs.YtonjgedhmmnolaaGreatDoor
