import Derived.Test.YtonjgedhmmnolaaGreatDoorZY3
import Derived.Test.YtonjgedhmmnolaaGreatDoorZ11
import Derived.Test.YtonjgedhmmnolaaGreatDoorZ22
namespace Go.Proofs.YtonjgedhmmnolaaGreatDoor
section
open Go.RowKit
set_option maxHeartbeats 1000000
set_option maxRecDepth 100000
theorem numB_lt8 (l : List UInt8) (h : l.length ≤ 8) : numB l < 18446744073709551616 :=
 Nat.lt_of_lt_of_le (numB_lt l) (show 256 ^ l.length ≤ 256 ^ 8 from Nat.pow_le_pow_right (by decide) h)
theorem number_c (s : ByteArray) (w : World) (h : s.size ≤ 8) : Calls Tryz.prog 142 #[.string s] w fun e w' => e = .returned (.int .u64 (numB s.data.toList : Nat)) ∧ w = w':=by
 have HL:=Ld (show s.data.toList.length = s.size by rw [Array.length_toList];rfl)
 obtain ⟨R,hR⟩ : ∃ R : Int,((numB s.data.toList : Nat) : Int) = R:=⟨_,rfl⟩
 have HR:=Ld hR
 rw [hR]
 clear hR
 go_enter Tryz.func142,Tryz.ntmps142
 go_wp2
 go_loopw [4,3] (fun i v wr => ∃ (k : Nat) (n : Int),k ≤ s.size ∧ i = .int .i64 k ∧ v = .int .u64 n ∧ Hid (n = ((numB (s.data.toList.take k) : Nat) : Int)) ∧ w = wr) (fun i _ _ => s.size - (intOf i).toNat)
 case atStart => exact ⟨0,0,Nat.zero_le _,rfl,rfl,Ld (by rw [List.take_zero];rfl),rfl⟩
 case round =>
  obtain ⟨k,n,hk,rfl,rfl,hn,hw⟩:=hrel
  subst hw
  by_cases hlt : k < s.size
  ·have HT:=Ld (numB_take (bs:=s.data.toList) (j:=k) (by rw [HL.out];exact hlt))
   have HG:=Ld (show s.data.toList[k]'(by rw [HL.out];exact hlt) = s[k] from rfl)
   have HB:=Ld (numB_lt8 (s.data.toList.take (k + 1)) (by rw [List.length_take];omega))
   have HC:=Ld (show (s[k]).toNat < 256 from UInt8.toNat_lt _)
   go_wp2
   refine ⟨⟨k + 1,_,by omega,by go_num,rfl,Ld ?_,trivial⟩,by simp [intOf];omega⟩
   have h1:=HT.out
   have h2:=HB.out
   have h3:=hn.out
   have h4:=HC.out
   rw [HG.out] at h1
   rw [h1] at h2 ⊢
   simp only [IntKind.wrap,IntKind.bits,IntKind.signed]
   push_cast at *
   simp
   omega
  ·have HN:=Ld (show s.data.toList.take k = s.data.toList from List.take_of_length_le (by rw [HL.out];omega))
   go_wp2
   go_ret
   exact ⟨ret_eq (by rw [← HR.out,← HN.out,← hn.out];rfl),rfl⟩
def texR : List UInt8 → Option (List UInt8 × List UInt8)
 | [] => none
 | [_] => none
 | c :: d :: r => if c ≠ 0 then (texR (d :: r)).map fun p => (c :: p.1,p.2) else if d = 1 then some ([],r) else (texR r).map fun p => (0 :: p.1,p.2)
theorem texR_short (l : List UInt8) (h : l.length ≤ 1) : texR l = none:=by
 match l,h with
 | [],_ => rw [texR]
 | [_],_ => rw [texR]
 | _ :: _ :: _,h => simp at h
theorem texR_drop (l : List UInt8) (k : Nat) (h : k + 1 < l.length) : texR (l.drop k) = if l[k] ≠ 0 then (texR (l.drop (k + 1))).map (fun p => (l[k] :: p.1,p.2)) else if l[k + 1] = 1 then some ([],l.drop (k + 2)) else (texR (l.drop (k + 2))).map fun p => (0 :: p.1,p.2):=by
 rw [List.drop_eq_getElem_cons (show k < l.length by omega),List.drop_eq_getElem_cons h,texR]
def ReadEnd [Inhabited Thr] (r : Option (ItemD × List UInt8)) (w : World) (e : Ending) (w' : World) : Prop :=
 Below w.heap.size w w' ∧ match r with
 | none => e = .returned (.tuple #[(VI.mk 0 false 0 0 ⟨#[]⟩ none 0 []).val,.string ⟨#[]⟩,.bool false])
 | some p => ∃ x : VI,e = .returned (.tuple #[x.val,.string ⟨p.2.toArray⟩,.bool true]) ∧ x.data = p.1 ∧ RdV w' x ∧ BlkV (fun k => w.heap.size ≤ k) x
theorem bytes_drop (s : ByteArray) (k : Nat) : s.extract k s.size = ⟨(s.data.toList.drop k).toArray⟩:=by
 apply ByteArray.ext
 apply Array.toList_inj.1
 simp only [ByteArray.data_extract,Array.toList_extract,List.extract_eq_take_drop]
 rw [List.take_of_length_le]
 rw [List.length_drop,Array.length_toList]
 exact Nat.le_refl _
end
section
open Go.RowKit
set_option maxHeartbeats 2000000
set_option maxRecDepth 100000
def texI (l : List UInt8) : Option (ItemD × List UInt8):=(texR l).map fun p => (.mk 5 false 0 0 ⟨p.1.toArray⟩ [],p.2)
theorem readText_c [Inhabited Thr] (s : ByteArray) (w : World) (hs : s.size ≤ 4096) : Calls Tryz.prog 143 #[.string s] w (ReadEnd (texI s.data.toList) w):=by
 have HL:=Ld (show s.data.toList.length = s.size by rw [Array.length_toList];rfl)
 obtain ⟨W0,hW0⟩ : ∃ W0,w.alloc (.cells (c6 0 false 0 0 ⟨#[]⟩ none 0 0) 54) = W0:=⟨_,rfl⟩
 have HW0:=Ld hW0
 have HBX:=Ld (fun W (h : Below (w.heap.size + 1) W0 W) => box_i (hW0 ▸ h))
 have HS0:=Ld (show W0.heap.size = w.heap.size + 1 by rw [← hW0];simp)
 clear hW0
 go_enter Tryz.func143,Tryz.ntmps143
 go_upto_region 1 with fail
 rw [show w.alloc (.cells #[.int .u8 0,.bool false,.int .i64 0,.float .f64 0,.string ⟨#[]⟩,.slice none 0 0] 54) = W0 from HW0.out]
 go_wp2
 go_loopw [5,6] (fun v i wr => ∃ (k : Nat) (bs : List UInt8),k ≤ s.size + 1 ∧ i = .int .i64 k ∧ bs.length ≤ k ∧ Hid (texR s.data.toList = (texR (s.data.toList.drop k)).map fun p => (bs ++ p.1,p.2)) ∧ Hid (OwnB wr (w.heap.size + 1) v bs) ∧ Hid (Below (w.heap.size + 1) W0 wr)) (fun _ i _ => s.size + 1 - (intOf i).toNat)
 case atStart => exact ⟨0,[],Nat.zero_le _,rfl,Nat.zero_le _,Ld (by simp),Ld (OwnB.nil _ _),Ld (Below.refl _ _)⟩
 case round =>
  obtain ⟨k,bs,hk,rfl,hbk,ht,hO,hB⟩:=hrel
  obtain ⟨hr0,hsz,hw⟩:=HBX.out _ hB.out
  have HROW:=Ld hr0
  have HSZ:=Ld (show w.heap.size + 1 ≤ wr.heap.size from hsz)
  have HWB:=Ld hw
  clear hr0 hsz hw
  by_cases hlt : k + 1 < s.size
  ·have hk0 : k < s.size:=by omega
   have HT:=Ld (texR_drop s.data.toList k (by rw [HL.out];exact hlt))
   have hg0 : s.data.toList[k]'(by rw [HL.out];exact hk0) = s[k]:=rfl
   have hg1 : s.data.toList[k + 1]'(by rw [HL.out];exact hlt) = s[k + 1]:=rfl
   rw [hg0,hg1] at HT
   have HV:=Ld (show #[Value.int .u8 (s[k].toNat : Int)] = (bts [s[k]]).toArray from rfl)
   by_cases h0 : s[k] = 0
   ·have e0 : ((s[k].toNat : Int) != 0) = false:=by rw [h0];rfl
    rw [if_neg (by simp [h0])] at HT
    clear h0 hg0 hg1
    by_cases h1 : s[k + 1] = 1
    ·have e1 : ((s[k + 1].toNat : Int) == 1) = true:=by rw [h1];rfl
     rw [if_pos h1] at HT
     clear h1
     have HTR:=Ld (show texI s.data.toList = some (.mk 5 false 0 0 ⟨bs.toArray⟩ [],s.data.toList.drop (k + 2)) by
      rw [texI,ht.out,HT.out];simp)
     have hsl:=fun wx : World => run_slice_string_l (P:=Tryz.prog) wx 9 s Tryz.underlying9 .i64 ((k : Int) + 2) (by omega) (by omega)
     rw [show ((k : Int) + 2).toNat = k + 2 by omega,bytes_drop] at hsl
     have hw2 : IntKind.i64.wrap ((k : Int) + 2) = (k : Int) + 2:=IntWalk.i64_in _ (by omega)
     go_upto_region 8 with fail
     have hBX0 : Box w.heap.size 6 54 w wr:=⟨HWB.out,_,HROW.out,rfl⟩
     refine wp_region_sched (S:=Box w.heap.size 6 54 w) [(0,true),(3,true),(4,true),(5,true),(6,true),(1,false),(2,true),(7,false),(8,true),(9,true)] (by kernel_rfl) (by kernel_rfl) (by kernel_rfl) (fun _ _ d _ _ h => by cases d <;> exact h) hBX0.drew ?_
     repeat (apply sched_take;(exact rfl);rfl;(intro W hW;go_simp;(try with_reducible rfl));simp only [Act.put,List.setIfInBounds_toArray,List.set_cons_zero,List.set_cons_succ])
     apply sched_run;(exact rfl);rfl;intro K hK
     have hcv:=run_back (w:=wr.drew) hO.out
     go_simp
     refine hK.out _ _ hBX0.drew (fun _ => ?_)
     clear hK K hcv
     try simp only [Act.put,List.setIfInBounds_toArray,List.set_cons_zero,List.set_cons_succ]
     repeat (apply sched_take;(exact rfl);rfl;(intro W hW;go_simp;(try with_reducible rfl));simp only [Act.put,List.setIfInBounds_toArray,List.set_cons_zero,List.set_cons_succ])
     apply sched_run;(exact rfl);rfl;intro K hK
     refine wp_store_box hBX0.drew 54 (.tmp 2) (.tmp 31) rfl (c6 5 false 0 0 ⟨bs.toArray⟩ none 0 0) rfl rfl (by kernel_rfl) rfl (one6 _ _ _ _ _ _ _ _) ?_
     have hB2:=hBX0.drew.setRow (c6 5 false 0 0 ⟨bs.toArray⟩ none 0 0) rfl
     refine hK.out _ _ hB2 (fun _ => ?_)
     clear hK K
     try simp only [Act.put,List.setIfInBounds_toArray,List.set_cons_zero,List.set_cons_succ]
     repeat (apply sched_take;(exact rfl);rfl;(intro W hW;go_simp;(try with_reducible rfl));simp only [Act.put,List.setIfInBounds_toArray,List.set_cons_zero,List.set_cons_succ])
     refine sched_done ?_
     go_wp2
     refine bodyPost_ret (results_ctt rfl _ _ w.heap.size 54 _ (0,0) _ rfl (setRow_block _ _ _ _ _ _ (show wr.drew.heap[w.heap.size]? = _ from HROW.out)) Tryz.underlying54 rfl (by kernel_rfl)) rfl ⟨hB2.1,?_⟩
     rw [HTR.out]
     exact ⟨.mk 5 false 0 0 ⟨bs.toArray⟩ none 0 [],rfl,by simp [VI.data,VI.dataL],RdV.plain _ _ _ _ _ _ (by show bs.toArray.size ≤ _;simp;omega) (by decide) (by decide) (by decide),BlkV.plain _ _ _ _ _ _⟩
    ·have e1 : ((s[k + 1].toNat : Int) == 1) = false:=by
       rw [beq_eq_false_iff_ne];intro h;exact h1 (UInt8.toNat_inj.1 (by rw [show (1 : UInt8).toNat = 1 from rfl];omega))
     rw [if_neg h1] at HT
     clear h1
     go_wp2_with (at_builtin;refine wpList_put rfl (.tmp 36) (.tmp 37) rfl (AppEnd.refl hO.out) rfl _ (show _ = (bts [0]).toArray from rfl) rfl rfl rfl (by simp) (by omega) HSZ.out ?_;intro v2 w2 hA2;have HB2:=Ld (hB.out.trans (hA2.below HSZ.out hO.out.ge));have HA2:=Ld hA2.own;clear hA2)
     refine ⟨⟨k + 2,bs ++ [0],by omega,by go_num,by simp;omega,Ld ?_,HA2,HB2⟩,by simp [intOf];omega⟩
     rw [ht.out,HT.out]
     cases texR (s.data.toList.drop (k + 2)) <;> simp
   ·have e0 : ((s[k].toNat : Int) != 0) = true:=by
      rw [bne_iff_ne];intro h;exact h0 (UInt8.toNat_inj.1 (by rw [show (0 : UInt8).toNat = 0 from rfl];omega))
    rw [if_pos h0] at HT
    clear h0 hg0 hg1
    go_wp2_with (at_builtin;refine wpList_put rfl (.tmp 18) (.tmp 22) rfl (AppEnd.refl hO.out) rfl _ HV.out rfl rfl rfl (by simp) (by omega) HSZ.out ?_;intro v2 w2 hA2;have HB2:=Ld (hB.out.trans (hA2.below HSZ.out hO.out.ge));have HA2:=Ld hA2.own;clear hA2)
    refine ⟨⟨k + 1,bs ++ [s[k]],by omega,by go_num,by simp;omega,Ld ?_,HA2,HB2⟩,by simp [intOf];omega⟩
    rw [ht.out,HT.out]
    cases texR (s.data.toList.drop (k + 1)) <;> simp
  ·have HTR:=Ld (show texI s.data.toList = none by
     rw [texI,ht.out,texR_short _ (by rw [List.length_drop,HL.out];omega)];rfl)
   go_wp2_with (refine wpList_store_row rfl 54 (.tmp 2) (.tmp 41) rfl w.heap.size (c6 0 false 0 0 ⟨#[]⟩ none 0 0) rfl rfl 54 _ HROW.out (by kernel_rfl) rfl (one6 _ _ _ _ _ _ _ _) ?_)
   refine bodyPost_ret (results_ctt rfl _ _ w.heap.size 54 _ (0,0) _ rfl (setRow_block _ _ _ _ _ _ HROW.out) Tryz.underlying54 rfl (by kernel_rfl)) rfl ⟨below_setRow HWB.out (Nat.le_refl _) _,?_⟩
   rw [HTR.out]
   rfl
end
end Go.Proofs.YtonjgedhmmnolaaGreatDoor
