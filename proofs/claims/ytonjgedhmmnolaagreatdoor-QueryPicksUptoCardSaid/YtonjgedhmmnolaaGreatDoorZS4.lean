import Derived.Test.YtonjgedhmmnolaaGreatDoorZS1
import Derived.Test.YtonjgedhmmnolaaGreatDoorZ14
import Derived.Test.YtonjgedhmmnolaaGreatDoorZZ12
import Derived.Test.YtonjgedhmmnolaaGreatDoorZ13
namespace Go.Proofs.YtonjgedhmmnolaaGreatDoor
section
open Go.RowKit
set_option maxHeartbeats 4000000
set_option maxRecDepth 100000
theorem over_info77 : (Tryz.prog.info? 54).map (·.size) = some (c6 3 false 77 0 ⟨#[]⟩ none 0 0).size:=by kernel_rfl
structure FrA (w : World) (B Bb : Nat) (v : Value) (m : Nat) (W : World) : Prop where
 sp : Spoilt B Bb w W
 own : ∃ xs,W.ownsRow B 28 1 v m xs
 loc : ∀ g,v.ownBlock = some g → (B ≤ g ∧ g < Bb ∧ ∃ cs,w.heap[g]? = some (.cells cs 28 (0,0))) ∨ w.heap.size ≤ g
section
variable {w W w' : World} {B Bb m : Nat} {v : Value}
theorem FrA.below (h : FrA w B Bb v m W) (hb : Below W.heap.size W w') : FrA w B Bb v m w':=by
 obtain ⟨xs,ho⟩:=h.own
 exact ⟨h.sp.below hb,⟨xs,own_below ho hb⟩,h.loc⟩
theorem FrA.form (h : FrA w B Bb v m W) (hm : 0 < m) : ∃ b cap,v = .slice (some ⟨b,0,none⟩) m cap:=by
 obtain ⟨ys,hr⟩:=h.own
 rcases hr.2 with ⟨_,h0⟩ | ⟨b,cap,cur,rfl,_⟩
 ·omega
 ·exact ⟨b,cap,rfl⟩
theorem wpList_app_nil {ops : Array Oper} {rest : List Oper} {o : Oper} {a : Act} {Q : Exit → Act → World → Prop} (hgd : o.guard = none) (s x : Operand)
 (ho : o.op = .call { callee:=.builtin .append,args:=#[s,x],argTypes:=#[44,44] }) (h : FrA w B Bb v m W) (hs : a.eval s = v)
 {gz c : Nat} (hx : a.eval x = .slice (some ⟨gz,0,none⟩) 1 c) (hz : W.heap[gz]? = some (.cells #[.slice none 0 0] 28 (0,0))) (hl : (m + 1) * 24 ≤ 140737488355328)
 (hK : ∀ v' W',FrA w B Bb v' (m + 1) W' → wpList Tryz.prog ops Q rest (a.put o.dst v') W') : wpList Tryz.prog ops Q (o :: rest) a W :=
 wpList_plain hgd fun K hKK => by
  obtain ⟨i0,hi,hz0,hz1,hz2⟩:=info_parts infoR
  obtain ⟨xs,hown⟩:=h.own
  have hbase : B ≤ W.heap.size:=by have:=h.sp.size;have:=h.sp.le;have:=h.sp.lo;omega
  have hr : Rd W 1 (some ⟨gz,0,none⟩) 1 [.slice none 0 0]:=⟨rfl,fun _ => ⟨gz,0,rfl,fun j u hu => by
   rw [Nat.zero_add,cell_of_row _ _ j _ _ _ hz]
   exact (List.getElem?_toArray ..).trans hu⟩⟩
  refine wp_append_rd s x 44 ho B 28 Tryz.underlying44 hi hz0 hz1 hz2 rfl (by decide) hs hown hx hr (by intro u hu;rw [List.mem_singleton.1 hu];rfl) hl (by decide) hbase ?_
  intro v' w' h2 h3 h4
  refine hKK _ _ (hK v' w' ⟨?_,⟨_,h2⟩,fun g hg => ?_⟩)
  ·cases hb : v.ownBlock with
   | none => exact h.sp.below ⟨h3.os,h3.tape,h3.output,h3.size,fun k hk => h3.block k hk (by rw [hb];exact fun e => by cases e)⟩
   | some g =>
     refine h.sp.step h3.os h3.tape h3.output h3.size g (hown.lt g hb).1 (fun k hk hne => h3.block k hk (by rw [hb];exact fun e => hne (Option.some.inj e))) ?_
     rcases h.loc g hb with ⟨_,h5,cs,h6⟩ | h5
     ·exact .inl ⟨h5,fun c2 h7 => absurd ⟨c2,h7⟩ (not_ir h6)⟩
     ·exact .inr h5
  ·rcases h4.1 with h4 | h4
   ·exact h.loc g (h4 ▸ hg)
   ·rw [h4] at hg
    have:=Option.some.inj hg
    have:=h.sp.size
    exact .inr (by omega)
theorem Spoilt.keptR (h : Spoilt B Bb w W) : Kept (fun k => B ≤ k ∧ k < Bb) w W :=
 ⟨h.bel.os,h.bel.tape,h.bel.output,h.bel.size,fun k hk hn => by
   by_cases h1 : k < B
   ·exact h.bel.block k h1
   ·exact h.mid k (by omega) hk⟩
theorem RdR.kept [Inhabited Thr] {A : Option Addr} {c : Nat} {R : List VI} {S : Nat → Prop} (h : RdR w A c R) (hk : Kept S w w') (h0 : ∀ b o,A = some ⟨b,o,none⟩ → ¬ S b) (hb : ∀ x ∈ R,BlkV (fun k => ¬ S k) x) : RdR w' A c R :=
 ⟨h.rd.kept hk (fun _ b o e => h0 b o e),h.hc,h.hb,fun x hx => (h.hx x hx).kept hk (hb x hx)⟩
theorem out_of {n c : Nat} {A : Option Addr} {xs : List Value} (h : w.ownsRow B 28 1 (.slice A n c) n xs) (hb : ∀ b o,A = some ⟨b,o,none⟩ → b < Bb) : Out w B Bb (.slice A n c):=by
 intro g hg
 rcases h.2 with ⟨h1,_⟩ | ⟨g',cap,cur,h1,hbg,hgg,_⟩
 ·rw [h1] at hg;cases hg
 ·cases h1
  have e : g' = g:=Option.some.inj hg
  subst e
  exact ⟨hbg,hb g' 0 rfl,cur,hgg⟩
end
theorem fresh_c [Inhabited Thr] (R S T : List VI) (A C D : Option Addr) (c d e : Nat) (w : World) (B Bb : Nat) (hthr : thr ≤ B) (hlo : B ≤ Bb) (hBb : Bb ≤ w.heap.size)
 (hR : RdR w A c R) (hO : OwnR w B (.slice A R.length c) R) (hAb : ∀ b o,A = some ⟨b,o,none⟩ → b < Bb) (hRb : ∀ x ∈ R,BlkV (fun k => B ≤ k ∧ k < Bb) x) (hRl : ∀ x ∈ R,0 < x.l.length ∧ (x.l.length + 3) * 64 ≤ 140737488355328) (hRn : (R.length + 3) * 24 ≤ 140737488355328)
 (hS : RdR w C d S) (hSo : ∀ b o,C = some ⟨b,o,none⟩ → Bb ≤ b) (hSb : ∀ x ∈ S,BlkV (fun k => Bb ≤ k) x)
 (hT : RdR w D e T) (hTo : ∀ b o,D = some ⟨b,o,none⟩ → Bb ≤ b) (hTb : ∀ x ∈ T,BlkV (fun k => Bb ≤ k) x) (h1 : SameR (rowsD R) (rowsD T)) (h2 : SameR (rowsD S) (rowsD T)) :
 Calls Tryz.prog 20 #[.slice A R.length c,.slice C S.length d,.slice D T.length e] w fun e w' => e = .returned (.bool true) ∧ Below B w w':=by
 have hTL : T.length = R.length:=by have:=h1.len;rw [rowsD_len,rowsD_len] at this;exact this.symm
 have HS1:=Ld (fun W (hb : Below w.heap.size w W) => (show Calls Tryz.prog 17 #[.slice A R.length c,.slice D R.length e] W fun e w' => e = .returned (.bool true) ∧ Below W.heap.size W w' by have:=sameR_c R T A D c e W (hR.below hb) (hT.below hb) h1;rw [hTL] at this;exact this))
 have HS2:=Ld (fun W (hs : RdR W C d S) (ht : RdR W D e T) => (show Calls Tryz.prog 17 #[.slice C S.length d,.slice D R.length e] W fun e w' => e = .returned (.bool true) ∧ Below W.heap.size W w' by have:=sameR_c S T C D d e W hs ht h2;rw [hTL] at this;exact this))
 rw [hTL]
 have HR:=Ld hR
 have HO:=Ld hO
 have HRB:=Ld hRb
 have HRL:=Ld hRl
 have HRN:=Ld hRn
 have HS:=Ld hS
 have HT:=Ld hT
 have HAB:=Ld hAb
 have HSK:=Ld (fun W (hk : Kept (fun k => B ≤ k ∧ k < Bb) w W) => hS.kept hk (fun b o e h => by have:=hSo b o e;omega) (fun x hx => (hSb x hx).mono fun k hk h => by omega))
 have HTK:=Ld (fun W (hk : Kept (fun k => B ≤ k ∧ k < Bb) w W) => hT.kept hk (fun b o e h => by have:=hTo b o e;omega) (fun x hx => (hTb x hx).mono fun k hk h => by omega))
 have HTH:=Ld hthr
 have HLO:=Ld hlo
 have HBB:=Ld hBb
 have hrb : R.length ≤ 5864062014805:=by omega
 clear hR hO hRb hRl hRn hS hT hAb hSo hSb hTo hTb h1 h2 hTL hthr hlo hBb
 go_enter Tryz.func20,Tryz.ntmps20
 go_wp2_with (first
  | (go_at_call 17;refine (HS1.out _ (Below.refl _ _)).mono ?_;rintro e w1 ⟨rfl,hb⟩;have HB1:=Ld hb;clear hb HS1)
  | (go_at_call 17;refine (HS2.out _ (HS.out.below HB1.out) (HT.out.below HB1.out)).mono ?_;rintro e w2 ⟨rfl,hb⟩;have HB2:=Ld (HB1.out.trans (hb.mono HB1.out.size));clear hb))
 rename World => V
 have HVS:=Ld (show Bb ≤ V.heap.size from Nat.le_trans HBB.out HB2.out.size)
 have HOV:=Ld (HO.out.below HB2.out)
 have HV:=Ld (out_of HOV.out.own HAB.out)
 go_loopw [7] (fun i wr => ∃ k : Nat,k ≤ R.length ∧ i = .int .i64 k ∧ Hid (FrO V B Bb (.slice A R.length c) R k wr)) (fun i _ => R.length - (intOf i).toNat)
 case atStart => exact ⟨0,Nat.zero_le _,rfl,Ld ⟨Spoilt.refl HLO.out HVS.out,R.map rcell,HOV.out.own,fun _ _ => rfl⟩⟩
 case round =>
  obtain ⟨k,hk,rfl,hF⟩:=hrel
  by_cases hlt : k < R.length
  ·obtain ⟨g0,cap0,hv0,p0⟩:=hF.out.row hlt
   cases hv0
   have HX:=Ld ((HR.out.hx _ (List.getElem_mem hlt)).grow HB2.out)
   have HXB:=Ld (HRB.out _ (List.getElem_mem hlt))
   have HXL:=Ld (HRL.out _ (List.getElem_mem hlt))
   have HST:=Ld (fun x (hx : R[k] = x) W' => FrI.start (x:=x) (W':=W') HTH.out hF.out HV.out hlt hx)
   obtain ⟨x,hx⟩ : ∃ x,R[k] = x:=⟨_,rfl⟩
   have HST2:=Ld (HST.out x hx)
   simp only [hx] at p0 HX HXB HXL
   clear hx HST
   have hxl : 0 < x.l.length:=HXL.out.1
   have hxb : x.l.length ≤ 2199023255549:=by have:=HXL.out.2;omega
   go_wp2_with (go_at_call 46;go_must (refine (spoil_c B Bb V HTH.out _ x wr (Nat.le_refl _) HX.out HXB.out hF.out.sp).mono ?_;rintro e w3 ⟨rfl,hs3,hk3⟩;have HF0:=Ld (HST2.out w3 HX.out HXB.out HXL.out.1 hs3 hk3);clear hs3 hk3 p0))
   go_loopw [8] (fun j wr => ∃ kk : Nat,kk ≤ 3 ∧ j = .int .i64 kk ∧ ∃ u m,Hid (m = x.l.length + kk) ∧ Hid (FrI V B Bb (.slice (some ⟨g0,0,none⟩) R.length c) R k u u m wr)) (fun j _ => 3 - (intOf j).toNat)
   case atStart => exact ⟨0,by omega,rfl,_,_,Ld rfl,HF0⟩
   case round =>
    obtain ⟨kk,hkk,rfl,u,m,HM,HF⟩:=hrel
    by_cases hl3 : kk < 3
    ·have HMB:=Ld (Nat.le_trans (Nat.mul_le_mul_right 64 (by rw [HM.out];omega : m + 1 ≤ x.l.length + 3)) HXL.out.2)
     have hm0 : 0 < m:=by rw [HM.out];omega
     have hmx : m ≤ 2199023255552:=by rw [HM.out];omega
     obtain ⟨b,cap,rfl⟩:=HF.out.form (by omega)
     obtain ⟨p0,p1⟩:=HF.out.cell rfl
     have hmi : (m : Int) < (m : Int) + 1:=by omega
     go_upto_region 10 with fail
     refine wp_region_tree (S:=fun _ => True)
      (.take 0 (.take 1 (.take 2 (.take 4 (.two 3 6 (.take 5 (.run 6 (.run 7 (.take 8 (.take 10 (.two 9 11 (.run 11 (.done)) (.run 9 (.done)))))))) (.run 3 (.take 5 (.run 7 (.take 8 (.take 10 (.two 9 11 (.run 11 (.done)) (.run 9 (.done))))))))))))) (by kernel_rfl) (by kernel_rfl) (by kernel_rfl) (fun _ _ d _ _ h => by cases d <;> exact h) trivial ?_
     apply tree_take;(exact rfl);rfl;(intro W hW;go_simp;(try with_reducible rfl));simp only [Act.put,List.setIfInBounds_toArray,List.set_cons_zero,List.set_cons_succ]
     apply tree_take;(exact rfl);rfl;(intro W hW;go_simp;(try with_reducible rfl));simp only [Act.put,List.setIfInBounds_toArray,List.set_cons_zero,List.set_cons_succ]
     apply tree_take;(exact rfl);rfl;(intro W hW;go_simp;(try with_reducible rfl));simp only [Act.put,List.setIfInBounds_toArray,List.set_cons_zero,List.set_cons_succ]
     apply tree_take;(exact rfl);rfl;(intro W hW;go_simp;(try with_reducible rfl));simp only [Act.put,List.setIfInBounds_toArray,List.set_cons_zero,List.set_cons_succ]
     refine tree_two ?_ ?_
     ·apply tree_run;(exact rfl);rfl;intro K hK;go_simp
      refine hK.out _ _ trivial (fun _ => ?_)
      clear hK K
      try simp only [Act.put,List.setIfInBounds_toArray,List.set_cons_zero,List.set_cons_succ]
      apply tree_take;(exact rfl);rfl;(intro W hW;go_simp;(try with_reducible rfl));simp only [Act.put,List.setIfInBounds_toArray,List.set_cons_zero,List.set_cons_succ]
      apply tree_run;(exact rfl);rfl;intro K hK;go_simp
      have HF1:=Ld (HF.out.below (((Below.refl _ wr).alloc (Nat.le_refl _) (.cells (c6 0 false 0 0 ⟨#[]⟩ none 0 0) 54)).drew))
      obtain ⟨ys,hys⟩:=HF1.out.row
      have HYS:=Ld hys
      clear hys
      refine hK.out _ _ trivial (fun _ => ?_)
      clear hK K
      try simp only [Act.put,List.setIfInBounds_toArray,List.set_cons_zero,List.set_cons_succ]
      apply tree_run;(exact rfl);rfl;intro K hK
      refine wp_app_zero (.tmp 38) (.tmp 41) rfl HF1.out.sp HYS.out HF1.out.loc rfl rfl (by exact heap_alloc_new wr _) (by omega) HMB.out (fun u' W' hs' hr' hl' hg' => ?_)
      have HF2:=Ld (HF1.out.app HV.out hs' hr' hl' hg')
      clear hs' hr' hl' hg'
      obtain ⟨b',cap',rfl⟩:=HF2.out.form (by omega)
      refine hK.out _ _ trivial (fun _ => ?_)
      clear hK K
      try simp only [Act.put,List.setIfInBounds_toArray,List.set_cons_zero,List.set_cons_succ]
      apply tree_take;(exact rfl);rfl;(intro W hW;go_simp;(try with_reducible rfl));simp only [Act.put,List.setIfInBounds_toArray,List.set_cons_zero,List.set_cons_succ]
      apply tree_take;(exact rfl);rfl;(intro W hW;go_simp;(try with_reducible rfl));simp only [Act.put,List.setIfInBounds_toArray,List.set_cons_zero,List.set_cons_succ]
      refine tree_two ?_ ?_
      ·apply tree_run;(exact rfl);rfl;intro K hK
       refine wp_store_mid 54 (.tmp 43) (.tmp 39) rfl b' (m * 6) (c6 3 false 77 0 ⟨#[]⟩ none 0 0) rfl rfl (HF2.out.there (by omega)) over_info77 (one6 _ _ _ _ _ _ _ _) ?_
       have HF3:=Ld (HF2.out.item HV.out (j:=m) (by omega) (ik:=3) (n:=77) (ib:=false) (f:=0) (t:=⟨#[]⟩))
       obtain ⟨r1,r2⟩:=HF3.out.cell rfl
       refine hK.out _ _ trivial (fun _ => ?_)
       clear hK K
       try simp only [Act.put,List.setIfInBounds_toArray,List.set_cons_zero,List.set_cons_succ]
       apply tree_run;(exact rfl);rfl;intro K hK;go_simp
       refine hK.out _ _ trivial (fun _ => ?_)
       clear hK K
       try simp only [Act.put,List.setIfInBounds_toArray,List.set_cons_zero,List.set_cons_succ]
       refine tree_done ?_
       clear r1 r2
       go_wp2
       exact ⟨⟨kk + 1,by omega,by go_num,_,m + 1,Ld (by rw [HM.out];omega),Ld (HF3.out.point HV.out rfl hlt)⟩,by simp [intOf];omega⟩
      ·obtain ⟨r1,r2⟩:=HF2.out.cell rfl
       apply tree_run;(exact rfl);rfl;intro K hK;go_simp
       have HF3:=Ld (HF2.out.point HV.out rfl hlt)
       refine hK.out _ _ trivial (fun _ => ?_)
       clear hK K
       try simp only [Act.put,List.setIfInBounds_toArray,List.set_cons_zero,List.set_cons_succ]
       clear r1 r2
       apply tree_run;(exact rfl);rfl;intro K hK
       refine wp_store_mid 54 (.tmp 43) (.tmp 39) rfl b' (m * 6) (c6 3 false 77 0 ⟨#[]⟩ none 0 0) rfl rfl (HF3.out.there (by omega)) over_info77 (one6 _ _ _ _ _ _ _ _) ?_
       have HF4:=Ld (HF3.out.item HV.out (j:=m) (by omega) (ik:=3) (n:=77) (ib:=false) (f:=0) (t:=⟨#[]⟩))
       refine hK.out _ _ trivial (fun _ => ?_)
       clear hK K
       try simp only [Act.put,List.setIfInBounds_toArray,List.set_cons_zero,List.set_cons_succ]
       refine tree_done ?_
       go_wp2
       exact ⟨⟨kk + 1,by omega,by go_num,_,m + 1,Ld (by rw [HM.out];omega),Ld HF4.out⟩,by simp [intOf];omega⟩
     ·apply tree_run;(exact rfl);rfl;intro K hK;go_simp
      have HF1:=Ld (HF.out.below (((Below.refl _ wr).alloc (Nat.le_refl _) (.cells (c6 0 false 0 0 ⟨#[]⟩ none 0 0) 54)).drew))
      obtain ⟨ys,hys⟩:=HF1.out.row
      have HYS:=Ld hys
      obtain ⟨p1,p2⟩:=HF1.out.cell rfl
      clear hys
      refine hK.out _ _ trivial (fun _ => ?_)
      clear hK K
      try simp only [Act.put,List.setIfInBounds_toArray,List.set_cons_zero,List.set_cons_succ]
      apply tree_run;(exact rfl);rfl;intro K hK;go_simp
      refine hK.out _ _ trivial (fun _ => ?_)
      clear hK K
      try simp only [Act.put,List.setIfInBounds_toArray,List.set_cons_zero,List.set_cons_succ]
      clear p1 p2
      apply tree_take;(exact rfl);rfl;(intro W hW;go_simp;(try with_reducible rfl));simp only [Act.put,List.setIfInBounds_toArray,List.set_cons_zero,List.set_cons_succ]
      apply tree_run;(exact rfl);rfl;intro K hK
      refine wp_app_zero (.tmp 38) (.tmp 41) rfl HF1.out.sp HYS.out HF1.out.loc rfl rfl (by exact heap_alloc_new wr _) (by omega) HMB.out (fun u' W' hs' hr' hl' hg' => ?_)
      have HF2:=Ld (HF1.out.app HV.out hs' hr' hl' hg')
      clear hs' hr' hl' hg'
      obtain ⟨b',cap',rfl⟩:=HF2.out.form (by omega)
      refine hK.out _ _ trivial (fun _ => ?_)
      clear hK K
      try simp only [Act.put,List.setIfInBounds_toArray,List.set_cons_zero,List.set_cons_succ]
      apply tree_take;(exact rfl);rfl;(intro W hW;go_simp;(try with_reducible rfl));simp only [Act.put,List.setIfInBounds_toArray,List.set_cons_zero,List.set_cons_succ]
      apply tree_take;(exact rfl);rfl;(intro W hW;go_simp;(try with_reducible rfl));simp only [Act.put,List.setIfInBounds_toArray,List.set_cons_zero,List.set_cons_succ]
      refine tree_two ?_ ?_
      ·apply tree_run;(exact rfl);rfl;intro K hK
       refine wp_store_mid 54 (.tmp 43) (.tmp 39) rfl b' (m * 6) (c6 3 false 77 0 ⟨#[]⟩ none 0 0) rfl rfl (HF2.out.there (by omega)) over_info77 (one6 _ _ _ _ _ _ _ _) ?_
       have HF3:=Ld (HF2.out.item HV.out (j:=m) (by omega) (ik:=3) (n:=77) (ib:=false) (f:=0) (t:=⟨#[]⟩))
       obtain ⟨r1,r2⟩:=HF3.out.cell rfl
       refine hK.out _ _ trivial (fun _ => ?_)
       clear hK K
       try simp only [Act.put,List.setIfInBounds_toArray,List.set_cons_zero,List.set_cons_succ]
       apply tree_run;(exact rfl);rfl;intro K hK;go_simp
       refine hK.out _ _ trivial (fun _ => ?_)
       clear hK K
       try simp only [Act.put,List.setIfInBounds_toArray,List.set_cons_zero,List.set_cons_succ]
       refine tree_done ?_
       clear r1 r2
       go_wp2
       exact ⟨⟨kk + 1,by omega,by go_num,_,m + 1,Ld (by rw [HM.out];omega),Ld (HF3.out.point HV.out rfl hlt)⟩,by simp [intOf];omega⟩
      ·obtain ⟨r1,r2⟩:=HF2.out.cell rfl
       apply tree_run;(exact rfl);rfl;intro K hK;go_simp
       have HF3:=Ld (HF2.out.point HV.out rfl hlt)
       refine hK.out _ _ trivial (fun _ => ?_)
       clear hK K
       try simp only [Act.put,List.setIfInBounds_toArray,List.set_cons_zero,List.set_cons_succ]
       clear r1 r2
       apply tree_run;(exact rfl);rfl;intro K hK
       refine wp_store_mid 54 (.tmp 43) (.tmp 39) rfl b' (m * 6) (c6 3 false 77 0 ⟨#[]⟩ none 0 0) rfl rfl (HF3.out.there (by omega)) over_info77 (one6 _ _ _ _ _ _ _ _) ?_
       have HF4:=Ld (HF3.out.item HV.out (j:=m) (by omega) (ik:=3) (n:=77) (ib:=false) (f:=0) (t:=⟨#[]⟩))
       refine hK.out _ _ trivial (fun _ => ?_)
       clear hK K
       try simp only [Act.put,List.setIfInBounds_toArray,List.set_cons_zero,List.set_cons_succ]
       refine tree_done ?_
       go_wp2
       exact ⟨⟨kk + 1,by omega,by go_num,_,m + 1,Ld (by rw [HM.out];omega),Ld HF4.out⟩,by simp [intOf];omega⟩
    ·obtain rfl : kk = 3:=by omega
     go_wp2
     exact ⟨⟨k + 1,by omega,by go_num,Ld HF.out.stop⟩,by simp [intOf];omega⟩
  ·have HFA:=Ld (show FrA V B Bb (.slice A R.length c) R.length wr from by
     obtain ⟨xs,ho,_⟩:=hF.out.own
     exact ⟨hF.out.sp,⟨xs,ho⟩,fun g hg => .inl (HV.out g hg)⟩)
   go_wp2
   rename World => Wm
   go_loopw [9,0] (fun j v wr => ∃ kk : Nat,kk ≤ 3 ∧ j = .int .i64 kk ∧ Hid (FrA V B Bb v (R.length + kk) wr)) (fun j _ _ => 3 - (intOf j).toNat)
   case atStart => exact ⟨0,by omega,rfl,HFA⟩
   case round =>
    obtain ⟨kk,hkk,rfl,HF⟩:=hrel
    by_cases hl3 : kk < 3
    ·have HF1:=Ld (HF.out.below ((Below.refl _ wr).alloc (Nat.le_refl _) (.cells #[.slice none 0 0] 28)))
     have HMB:=Ld (Nat.le_trans (Nat.mul_le_mul_right 24 (by omega : R.length + kk + 1 ≤ R.length + 3)) HRN.out)
     go_wp2_with (at_builtin;go_must (refine wpList_app_nil rfl (.tmp 49) (.tmp 50) rfl HF1.out rfl rfl (heap_alloc_new wr _) HMB.out ?_;intro v2 W2 hf2;have HF2:=Ld hf2;clear hf2))
     exact ⟨⟨kk + 1,by omega,by go_num,HF2⟩,by simp [intOf];omega⟩
    ·obtain rfl : kk = 3:=by omega
     obtain ⟨b,cap,rfl⟩:=HF.out.form (by omega)
     have HKP:=Ld ((Kept.of_below HB2.out).trans HF.out.sp.keptR)
     have HBL:=Ld (show Below B w wr from (HB2.out.mono (Nat.le_trans HLO.out HBB.out)).trans HF.out.sp.bel)
     have hBw : B ≤ wr.heap.size:=Nat.le_trans (Nat.le_trans HLO.out HBB.out) HBL.out.size
     go_wp2_with (go_at_call 17;go_must (refine (HS2.out _ (HSK.out _ HKP.out) (HTK.out _ HKP.out)).mono ?_;rintro e w5 ⟨rfl,hb⟩;have HB5:=Ld (HBL.out.trans (hb.mono hBw));clear hb))
     go_ret
     exact ⟨rfl,HB5.out⟩
end
section
open Go.RowKit
set_option maxHeartbeats 1000000
set_option maxRecDepth 100000
theorem fres_same {o : Option Nat} {a b : Nat} (ha : FRes o a) (hb : FRes o b) : bitsF a = bitsF b ∧ (a = b ∨ (isNan a = true ∧ isNan b = true)):=by
 cases o with
 | some v => obtain ⟨rfl,_⟩:=ha;obtain ⟨rfl,_⟩:=hb;exact ⟨rfl,.inl rfl⟩
 | none => exact ⟨by rw [bitsF,bitsF,if_pos ha.1,if_pos hb.1],.inr ⟨ha.1,hb.1⟩⟩
theorem quo_nan {a b : Nat} (h : isNan a = true) : floatBits .quo .f64 a b = none:=by
 obtain ⟨s,p,h⟩:=read_nan h
 simp [floatBits,Ieee.Format.div,h]
 try simp [Ieee.Datum.quotient]
theorem float_same {a b : Nat} (h : bitsF a = bitsF b) : SameI (floatV a).data (floatV b).data:=by
 simp only [VI.data,VI.dataL]
 exact .mk 4 false 0 a b ⟨#[]⟩ [] [] h rfl (fun i h1 _ => by simp at h1)
theorem SameI.rfl' (x : ItemD) : SameI x x:=SameI.refl _ x (Nat.le_refl _)
theorem fold_same {kd fo : Int} {l : List ItemD} {y z : ItemD} {n m : Nat} (hy : FoldOk kd fo l y n) (hz : FoldOk kd fo l z m) : n = m ∧ SameI y z:=by
 unfold FoldOk at hy hz
 by_cases h2 : fo = 2
 ·rw [if_pos h2] at hy hz;rw [hy.1,hz.1,hy.2,hz.2];exact ⟨rfl,SameI.rfl' _⟩
 rw [if_neg h2] at hy hz
 by_cases h3 : fo = 3
 ·rw [if_pos h3] at hy hz;rw [hy.1,hz.1,hy.2,hz.2];exact ⟨rfl,SameI.rfl' _⟩
 rw [if_neg h3] at hy hz
 by_cases h5 : fo = 5
 ·rw [if_pos h5] at hy hz
  refine ⟨by rw [hy.1,hz.1],?_⟩
  rcases hy.2 with ⟨h0,rfl⟩ | ⟨h0,s,f,rfl,hs,hf⟩
  ·rcases hz.2 with ⟨_,rfl⟩ | ⟨h1,_⟩
   ·exact SameI.rfl' _
   ·exact absurd h0 h1
  ·rcases hz.2 with ⟨h1,_⟩ | ⟨_,s',f',rfl,hs',hf'⟩
   ·exact absurd h1 h0
   ·apply float_same
    rcases (fres_same hs hs').2 with e | ⟨e1,e2⟩
    ·subst e;exact (fres_same hf hf').1
    ·rw [quo_nan e1] at hf;rw [quo_nan e2] at hf';exact (fres_same hf hf').1
 rw [if_neg h5] at hy hz
 by_cases h4 : kd = 4
 ·rw [if_pos h4] at hy hz
  obtain ⟨rfl,f,rfl,hf⟩:=hy
  obtain ⟨rfl,g,rfl,hg⟩:=hz
  exact ⟨rfl,float_same (fres_same hf hg).1⟩
 ·rw [if_neg h4] at hy hz
  rw [hy.1,hz.1,hy.2,hz.2]
  exact ⟨rfl,SameI.rfl' _⟩
theorem sameR_one {y z : ItemD} (h : SameI y z) : SameR [[y]] [[z]] :=
 ⟨rfl,fun i h1 _ => by
   obtain rfl : i = 0:=by simpa using h1
   exact ⟨rfl,fun j h3 _ => by
    obtain rfl : j = 0:=by simpa using h3
    exact h⟩⟩
theorem come_same {t : TabD} {q : QryV} {rows a b : List (List ItemD)} {n m : Nat} (ha : ComeOk t q rows a n) (hb : ComeOk t q rows b m) : n = m ∧ SameR a b:=by
 unfold ComeOk at ha hb
 by_cases h1 : q.fold = 1
 ·rw [if_pos h1] at ha hb;rw [ha.1,hb.1,ha.2,hb.2];exact ⟨rfl,SameR.refl _⟩
 rw [if_neg h1] at ha hb
 by_cases h0 : q.fold ≠ 0
 ·rw [if_pos h0] at ha hb
  obtain ⟨y,i,hy,rfl,rfl⟩:=ha
  obtain ⟨z,j,hz,rfl,rfl⟩:=hb
  obtain ⟨rfl,hs⟩:=fold_same hy hz
  refine ⟨rfl,?_⟩
  split
  ·exact sameR_one hs
  ·exact SameR.refl _
 rw [if_neg h0] at ha hb
 by_cases hc : q.cols = []
 ·rw [if_pos hc] at ha hb;rw [ha.1,hb.1,ha.2,hb.2];exact ⟨rfl,SameR.refl _⟩
 ·rw [if_neg hc] at ha hb;rw [ha.1,hb.1,ha.2,hb.2];exact ⟨rfl,SameR.refl _⟩
section
variable {pg wd : Int} {t : TabD} {q : QryV} {P : List (ByteArray × ByteArray)}
theorem pick_same {a b : List (List ItemD)} {n m : Nat} (ha : PickOk pg wd t q P a n) (hb : PickOk pg wd t q P b m) : n = m ∧ SameR a b:=by
 unfold PickOk at ha hb
 by_cases h : (spanR pg wd t q).2.2 ≠ 0
 ·rw [if_pos h] at ha hb;rw [ha.1,hb.1,ha.2,hb.2];exact ⟨rfl,SameR.refl _⟩
 rw [if_neg h] at ha hb
 cases hr : rowsA pg wd t (spanR pg wd t q).1 (spanR pg wd t q).2.1 [] P with
 | mk o i =>
   rw [hr] at ha hb
   cases o with
   | none => rw [ha.1,hb.1,ha.2,hb.2];exact ⟨rfl,SameR.refl _⟩
   | some rows => exact come_same ha hb
theorem rowsA_len {lo hi : List UInt8} {acc rows : List (List ItemD)} {P : List (ByteArray × ByteArray)} {n : Nat} (h : rowsA pg wd t lo hi acc P = (some rows,n)) (ha : ∀ r ∈ acc,r.length = t.cols.length) : (∀ r ∈ rows,r.length = t.cols.length) ∧ rows.length ≤ acc.length + P.length:=by
 induction P generalizing acc with
 | nil => rw [rowsA] at h;injection h with h1 _;injection h1 with h1;subst h1;exact ⟨ha,Nat.le_refl _⟩
 | cons p P ih =>
   rw [rowsA] at h
   split at h
   ·have:=ih h ha
    exact ⟨this.1,by simp only [List.length_cons];omega⟩
   ·cases hr : rowR pg wd t p.1.data.toList p.2.data.toList with
    | mk o m =>
      rw [hr] at h
      cases o with
      | none => injection h with h1;cases h1
      | some r =>
        have:=ih h (fun x hx => by
         rcases List.mem_append.1 hx with hx | hx
         ·exact ha x hx
         ·rw [List.mem_singleton.1 hx];exact (rowR_cols hr).2)
        exact ⟨this.1,by have:=this.2;simp only [List.length_append,List.length_cons,List.length_nil] at this ⊢;omega⟩
theorem kept_len (rows : List (List ItemD)) : (keptD t q (if q.down = true then rows.reverse else rows)).length ≤ rows.length:=by
 have h1 : (if q.down = true then rows.reverse else rows).length = rows.length:=by split <;> simp
 rw [← h1]
 unfold keptD
 split
 ·rw [List.length_take]
  have:=List.length_filter_le (keepD t q.wh) (if q.down = true then rows.reverse else rows)
  omega
 ·exact List.length_filter_le _ _
theorem pick_rows {out : List (List ItemD)} {n : Nat} (h : PickOk pg wd t q P out n) (hq : q.cols.length ≤ 1048576) : (∀ r ∈ out,0 < r.length ∧ r.length ≤ 1048576) ∧ out.length ≤ P.length + 1:=by
 unfold PickOk at h
 by_cases hs : (spanR pg wd t q).2.2 ≠ 0
 ·rw [if_pos hs] at h;rw [h.1];exact ⟨by simp,by simp⟩
 rw [if_neg hs] at h
 have hs0 : (spanR pg wd t q).2.2 = 0:=by omega
 have hT:=shaped_len (chkT_ok (chkQ_ok (spanR_ok hs0)).1).2
 cases hr : rowsA pg wd t (spanR pg wd t q).1 (spanR pg wd t q).2.1 [] P with
 | mk o i =>
   rw [hr] at h
   cases o with
   | none => rw [h.1];exact ⟨by simp,by simp⟩
   | some rows =>
     obtain ⟨hl,hc⟩:=rowsA_len hr (by simp)
     simp only [List.length_nil] at hc
     have hk:=kept_len (t:=t) (q:=q) rows
     have hm:=fun r => kept_mem (t:=t) (q:=q) (rows:=rows) (r:=r)
     simp only at h
     unfold ComeOk at h
     by_cases h1 : q.fold = 1
     ·rw [if_pos h1] at h;rw [h.2]
      exact ⟨fun r hr => by rw [List.mem_singleton.1 hr];exact ⟨by simp,by simp⟩,by simp⟩
     rw [if_neg h1] at h
     by_cases h0 : q.fold ≠ 0
     ·rw [if_pos h0] at h
      obtain ⟨y,m,_,_,rfl⟩:=h
      split
      ·exact ⟨fun r hr => by rw [List.mem_singleton.1 hr];exact ⟨by simp,by simp⟩,by simp⟩
      ·exact ⟨by simp,by simp⟩
     rw [if_neg h0] at h
     by_cases hc0 : q.cols = []
     ·rw [if_pos hc0] at h;rw [h.2]
      exact ⟨fun r hr => by rw [hl r (hm r hr)];omega,by omega⟩
     ·rw [if_neg hc0] at h;rw [h.2]
      refine ⟨fun r hr => ?_,by rw [List.length_map];omega⟩
      obtain ⟨r0,_,rfl⟩:=List.mem_map.1 hr
      rw [projD,List.length_map]
      exact ⟨List.length_pos_iff.2 hc0,hq⟩
end
end
end Go.Proofs.YtonjgedhmmnolaaGreatDoor
