import Derived.Test.YtonjgedhmmnolaaGreatDoorZZ12
import Derived.Test.YtonjgedhmmnolaaGreatDoorZ12
namespace Go.Proofs.YtonjgedhmmnolaaGreatDoor
section
open Go.RowKit
set_option maxHeartbeats 4000000
set_option maxRecDepth 100000
def PickEndB [Inhabited Thr] (ok : List (List ItemD) → Nat → Prop) (w : World) (e : Ending) (w' : World) : Prop :=
 ∃ (RO : List VI) (A : Option Addr) (c n : Nat),e = .returned (.tuple #[.slice A RO.length c,.int .i64 n]) ∧ ok (rowsD RO) n ∧ RdR w' A c RO ∧ (∀ x ∈ RO,BlkV (fun k => w.heap.size ≤ k) x) ∧ (∀ b o,A = some ⟨b,o,none⟩ → w.heap.size ≤ b) ∧ Below w.heap.size w w'
theorem refPickAll_c [Inhabited Thr] (pg wd : Int) (A : Option Addr) (c : Nat) (t : TabD) (q : QryV) (AP : Option Addr) (cP : Nat) (P : List (ByteArray × ByteArray)) (w : World) (hR : RdT w A c t) (hQ : RdQ w q) (hP : RdP w AP cP P) (hf : q.fold = 0) (hc : q.cols = []) :
 Calls Tryz.prog 19 #[vF pg wd,vT t A c,q.val,.slice AP P.length cP] w (PickEndB (PickOk pg wd t q P) w):=by
 have HR:=Ld hR
 have HQ:=Ld hQ
 have HP:=Ld hP
 have hfo:=hf
 have HRB:=Ld (fun rows n => rows_bad (pg:=pg) (wd:=wd) (t:=t) (q:=q) (P:=P) (rows:=rows) (n:=n))
 have HRP:=Ld (fun rows out m => rows_pick (pg:=pg) (wd:=wd) (t:=t) (q:=q) (P:=P) (rows:=rows) (out:=out) (m:=m))
 have HRC:=Ld (fun rows => (show ComeOk t q rows rows 0 by rw [ComeOk,if_neg (by rw [hf];decide),if_neg (by rw [hf];decide),if_pos hc];exact ⟨rfl,rfl⟩))
 have HNC:=Ld (show q.cols.length = 0 by rw [hc];rfl)
 obtain ⟨OK,hOK⟩ : ∃ OK,PickOk pg wd t q P = OK:=⟨_,rfl⟩
 simp only [hOK] at HRB HRP
 rw [hOK]
 clear hf hc hOK
 rcases t with ⟨tn,cols,keys⟩
 rcases q with ⟨qt,fr,tt,wh,qc,qd,ql,qf,qo,AF,cF,AT,cT,AW,cW,AC,cC⟩
 simp only [QryV.val,QryV.cells] at hfo HRB HRP HRC ⊢
 obtain ⟨W0,hW0⟩ : ∃ W0,(((w.alloc (.cells #[.int .i64 pg,.int .i64 wd] 24)).alloc (.cells #[.string tn,.slice A cols.length c,.int .i64 keys] 27)).alloc (.cells #[.string qt,.slice AF fr.length cF,.slice AT tt.length cT,.slice AW wh.length cW,.slice AC qc.length cC,.bool qd,.int .i64 ql,.int .u8 qf,.string qo] 33)) = W0:=⟨_,rfl⟩
 have HW0:=Ld hW0
 have HBX:=Ld (fun W (h : Below (w.heap.size + 3) W0 W) => boxes_fq (hW0 ▸ h))
 have HS0:=Ld (show W0.heap.size = w.heap.size + 3 by rw [← hW0];simp)
 have HWB:=Ld (show Below w.heap.size w W0 by rw [← hW0];exact (two_below w _ _).alloc (by simp;omega) _)
 clear hR hQ hP hW0
 have hnc0 : ((qc.length : Int) == 0) = true:=eqt HNC.out
 subst hfo
 go_enter Tryz.func19,Tryz.ntmps19
 go_upto_region 1 with fail
 rw [HW0.out]
 obtain ⟨⟨f0,f1⟩,⟨q0,q1,q2⟩,⟨a0,a1,a2,a3,a4,a5,a6,a7,a8⟩,q3,_⟩:=HBX.out W0 (Below.refl _ _)
 go_upto_region 2 with (go_at_call 43;go_must (refine (refRows_c26 pg wd A c ⟨tn,cols,keys⟩ ⟨qt,fr,tt,wh,qc,qd,ql,0,qo,AF,cF,AT,cT,AW,cW,AC,cC⟩ AP cP P W0 (HR.out.below HWB.out) (HQ.out.below HWB.out) (HP.out.below HWB.out)).mono ?_;rintro e w1 ⟨RO,RA,RC,n,rfl,ho,hrr,hbk,hlen,hcnt,hra,hb1⟩;have HRA:=Ld hra;have HO:=Ld ho;have HRR:=Ld hrr;have HBK:=Ld hbk;have HB1:=Ld (show Below (w.heap.size + 3) W0 w1 by have:=hb1;rw [HS0.out] at this;exact this);clear ho hrr hbk hlen hcnt hra hb1 f0 f1 q0 q1 q2 a0 a1 a2 a3 a4 a5 a6 a7 a8 q3))
 obtain ⟨⟨f0,f1⟩,⟨q0,q1,q2⟩,⟨a0,a1,a2,a3,a4,a5,a6,a7,a8⟩,q3,q4⟩:=HBX.out _ HB1.out
 have HW:=Ld q4
 clear q4
 by_cases h0 : n = 0
 ·subst h0
  have HAL:=Ld (HRP.out _ _ _ HO.out (HRC.out _))
  go_wp2
  go_ret2
  exact ⟨RO,RA,RC,0,rfl,HAL.out,HRR.out,fun x hx => (HBK.out x hx).mono fun k hk => by have:=HWB.out.size;omega,(fun b o e => Nat.le_trans HWB.out.size (HRA.out b o e)),HW.out⟩
 ·have z1:=nz h0
  have HAL:=Ld (HRB.out _ _ HO.out h0)
  clear h0
  go_wp2
  go_ret2
  exact ⟨[],none,0,n,rfl,HAL.out,RdR.nil _ _,by simp,(by intro b o e;cases e),HW.out⟩
theorem refPickCount_c [Inhabited Thr] (pg wd : Int) (A : Option Addr) (c : Nat) (t : TabD) (q : QryV) (AP : Option Addr) (cP : Nat) (P : List (ByteArray × ByteArray)) (w : World) (hR : RdT w A c t) (hQ : RdQ w q) (hP : RdP w AP cP P) (hf : q.fold = 1) :
 Calls Tryz.prog 19 #[vF pg wd,vT t A c,q.val,.slice AP P.length cP] w (PickEndB (PickOk pg wd t q P) w):=by
 have HR:=Ld hR
 have HQ:=Ld hQ
 have HP:=Ld hP
 have hfo:=hf
 have HRB:=Ld (fun rows n => rows_bad (pg:=pg) (wd:=wd) (t:=t) (q:=q) (P:=P) (rows:=rows) (n:=n))
 have HRP:=Ld (fun rows out m => rows_pick (pg:=pg) (wd:=wd) (t:=t) (q:=q) (P:=P) (rows:=rows) (out:=out) (m:=m))
 have HRC:=Ld (fun rows => come_count (t:=t) (q:=q) (rows:=rows) hf)
 obtain ⟨OK,hOK⟩ : ∃ OK,PickOk pg wd t q P = OK:=⟨_,rfl⟩
 simp only [hOK] at HRB HRP
 rw [hOK]
 clear hf hOK
 rcases t with ⟨tn,cols,keys⟩
 rcases q with ⟨qt,fr,tt,wh,qc,qd,ql,qf,qo,AF,cF,AT,cT,AW,cW,AC,cC⟩
 simp only [QryV.val,QryV.cells] at hfo HRB HRP HRC ⊢
 obtain ⟨W0,hW0⟩ : ∃ W0,(((w.alloc (.cells #[.int .i64 pg,.int .i64 wd] 24)).alloc (.cells #[.string tn,.slice A cols.length c,.int .i64 keys] 27)).alloc (.cells #[.string qt,.slice AF fr.length cF,.slice AT tt.length cT,.slice AW wh.length cW,.slice AC qc.length cC,.bool qd,.int .i64 ql,.int .u8 qf,.string qo] 33)) = W0:=⟨_,rfl⟩
 have HW0:=Ld hW0
 have HBX:=Ld (fun W (h : Below (w.heap.size + 3) W0 W) => boxes_fq (hW0 ▸ h))
 have HS0:=Ld (show W0.heap.size = w.heap.size + 3 by rw [← hW0];simp)
 have HWB:=Ld (show Below w.heap.size w W0 by rw [← hW0];exact (two_below w _ _).alloc (by simp;omega) _)
 clear hR hQ hP hW0
 subst hfo
 go_enter Tryz.func19,Tryz.ntmps19
 go_upto_region 1 with fail
 rw [HW0.out]
 obtain ⟨⟨f0,f1⟩,⟨q0,q1,q2⟩,⟨a0,a1,a2,a3,a4,a5,a6,a7,a8⟩,q3,_⟩:=HBX.out W0 (Below.refl _ _)
 go_upto_region 2 with (go_at_call 43;go_must (refine (refRows_c26 pg wd A c ⟨tn,cols,keys⟩ ⟨qt,fr,tt,wh,qc,qd,ql,1,qo,AF,cF,AT,cT,AW,cW,AC,cC⟩ AP cP P W0 (HR.out.below HWB.out) (HQ.out.below HWB.out) (HP.out.below HWB.out)).mono ?_;rintro e w1 ⟨RO,RA,RC,n,rfl,ho,hrr,hbk,hlen,hcnt,hra,hb1⟩;have HRA:=Ld hra;have HO:=Ld ho;have HRR:=Ld hrr;have HBK:=Ld hbk;have HB1:=Ld (show Below (w.heap.size + 3) W0 w1 by have:=hb1;rw [HS0.out] at this;exact this);clear ho hrr hbk hlen hcnt hra hb1 f0 f1 q0 q1 q2 a0 a1 a2 a3 a4 a5 a6 a7 a8 q3))
 obtain ⟨⟨f0,f1⟩,⟨q0,q1,q2⟩,⟨a0,a1,a2,a3,a4,a5,a6,a7,a8⟩,q3,q4⟩:=HBX.out _ HB1.out
 have HW:=Ld q4
 clear q4
 by_cases h0 : n = 0
 ·subst h0
  have HAL:=Ld (HRP.out _ _ _ HO.out (HRC.out _))
  have hrb:=HRR.out.hb
  have HRO:=Ld (rd_one w1 (intV RO.length) (c6 3 false RO.length 0 ⟨#[]⟩ none 0 0) rfl (RdV.leaf w1 (by decide) ⟨by omega,by omega⟩ (by decide)) (g:=w1.heap.size) rfl)
  go_wp2
  go_ret2
  exact ⟨[rowV (some ⟨w1.heap.size,0,none⟩) 1 [intV RO.length]],_,1,0,rfl,by have:=HAL.out;rw [rowsD_len] at this;exact this,HRO.out,(by intro x hx;rw [List.mem_singleton.1 hx];exact BlkV.row (fun _ b o e => by cases e;exact HW.out.size) (by intro y hy;rw [List.mem_singleton.1 hy];exact .leaf)),(fun b o e => by cases e;have:=HW.out.size;omega),HW.out.trans ((two_below w1 _ _).mono HW.out.size)⟩
 ·have z1:=nz h0
  have HAL:=Ld (HRB.out _ _ HO.out h0)
  clear h0
  go_wp2
  go_ret2
  exact ⟨[],none,0,n,rfl,HAL.out,RdR.nil _ _,by simp,(by intro b o e;cases e),HW.out⟩
end
section
open Go.RowKit
set_option maxHeartbeats 4000000
set_option maxRecDepth 100000
theorem refFold_c [Inhabited Thr] (A : Option Addr) (c : Nat) (t : TabD) (q : QryV) (B : Option Addr) (d : Nat) (l : List VI) (a : Nat) (P : Nat → Prop) (w : World) (hR : RdT w A c t) (hQ : RdQ w q) (hL : RdI w B d l) (ha : findC t q.over = a) (hac : a < t.cols.length)
 (hf : 2 ≤ q.fold ∧ q.fold ≤ 5) (hs : 4 ≤ q.fold → (kindAt t a = 3 ∨ kindAt t a = 4) ∧ ∀ x ∈ l,x.k = kindAt t a) (hn : l.length ≤ 1048576) (hP : ∀ x ∈ l,BlkV P x) (hPw : ∀ k,w.heap.size ≤ k → P k) :
 Calls Tryz.prog 45 #[vT t A c,q.val,.slice B l.length d] w (FoldEndP P (kindAt t a) q.fold (VI.dataL l) w):=by
 rcases (by omega : (q.fold = 2 ∨ q.fold = 3) ∨ (q.fold = 4 ∨ q.fold = 5)) with h | h
 ·exact refFoldBest_c A c t q B d l a P w hR hQ hL ha hac h hP
 ·refine (refFoldSum_c A c t q B d l a w hR hQ hL ha hac h (hs (by omega)).1 (hs (by omega)).2 hn).mono ?_
  rintro e w' ⟨y,n,he,hk,hr,hb,hB⟩
  exact ⟨y,n,he,hk,hr,hb.mono hPw,hB⟩
section
variable {pg wd : Int} {t : TabD} {q : QryV} {P : List (ByteArray × ByteArray)}
theorem rows_sum {rows : List (List ItemD)} (h : RowsOk pg wd t q P rows 0) (hf : 4 ≤ q.fold) : kindAt t (findC t q.over) = 3 ∨ kindAt t (findC t q.over) = 4:=by
 obtain ⟨_,_,_,_,_,_,hfo,_⟩:=chkQ_ok (rows_chk h)
 unfold foldsB at hfo
 rw [if_neg (by omega),if_neg (by omega)] at hfo
 by_cases h5 : q.fold = 4 ∨ q.fold = 5
 ·rw [if_pos h5] at hfo
  simp only [Bool.and_eq_true,Bool.or_eq_true,decide_eq_true_eq] at hfo
  exact hfo.1
 ·rw [if_neg h5,if_neg (by omega)] at hfo
  cases hfo
theorem items_kindV [Inhabited Thr] {RO : List VI} {a : Nat} (h : RowsOk pg wd t q P (rowsD RO) 0) (hl : ∀ x ∈ RO,x.l.length = t.cols.length) (ha : a < t.cols.length) : ∀ x ∈ itemsV a RO,x.k = kindAt t a:=by
 intro x hx
 have hd : VI.dataL (itemsV a RO) = itemsD a (rowsD RO):=items_data a RO
 have hm : x.data ∈ itemsD a (rowsD RO):=by rw [← hd,dataL_eq];exact List.mem_map_of_mem hx
 rw [← data_k]
 refine items_kind (t:=t) (rows:=rowsD RO) (fun r hr => ⟨rows_fit h r hr,?_⟩) ha _ hm
 obtain ⟨y,hy,rfl⟩:=List.mem_map.1 hr
 rw [dataL_eq,List.length_map]
 exact hl y hy
end
theorem items_mem (a : Nat) (R : List VI) : ∀ y ∈ itemsV a R,∃ x ∈ R,y ∈ x.l ∨ y = nilV:=by
 intro y hy
 obtain ⟨x,hx,rfl⟩:=List.mem_map.1 (List.mem_filter.1 hy).1
 refine ⟨x,hx,?_⟩
 rw [List.getD_eq_getElem?_getD]
 cases h : x.l[a]? with
 | none => right;rfl
 | some z => left;exact List.mem_of_getElem? h
theorem items_blk {P : Nat → Prop} {a : Nat} {R : List VI} (h : ∀ x ∈ R,BlkV P x) : ∀ y ∈ itemsV a R,BlkV P y:=by
 intro y hy
 obtain ⟨x,hx,h2 | rfl⟩:=items_mem a R y hy
 ·exact (h x hx).list y h2
 ·exact .leaf
theorem refPickFold_c [Inhabited Thr] (pg wd : Int) (A : Option Addr) (c : Nat) (t : TabD) (q : QryV) (AP : Option Addr) (cP : Nat) (P : List (ByteArray × ByteArray)) (w : World) (hR : RdT w A c t) (hQ : RdQ w q) (hP : RdP w AP cP P) (hf : 2 ≤ q.fold) (hn : P.length ≤ 1048576) :
 Calls Tryz.prog 19 #[vF pg wd,vT t A c,q.val,.slice AP P.length cP] w (PickEndB (PickOk pg wd t q P) w):=by
 have HR:=Ld hR
 have HQ:=Ld hQ
 have HP:=Ld hP
 have HNP:=Ld hn
 have hfo:=hf
 have HRB:=Ld (fun rows n => rows_bad (pg:=pg) (wd:=wd) (t:=t) (q:=q) (P:=P) (rows:=rows) (n:=n))
 have HRC:=Ld (fun rows (y : ItemD) n (h : RowsOk pg wd t q P rows 0) hk => rows_pick h (come_fold (t:=t) (q:=q) (rows:=rows) (y:=y) (n:=n) hf hk))
 have HQK:=Ld (fun rows (h : RowsOk pg wd t q P rows 0) => (show (0 ≤ findC t q.over ∧ findC t q.over < t.cols.length) ∧ q.fold ≤ 5 from ⟨(QOk.of (rows_chk h) (by omega)).ov hf,(QOk.of (rows_chk h) (by omega)).fo.2⟩))
 have HRS:=Ld (fun RO (h : RowsOk pg wd t q P (rowsD RO) 0) hl (a : Nat) (ha : findC t q.over = (a : Int)) (hac : a < t.cols.length) (h4 : 4 ≤ q.fold) => (show (kindAt t a = 3 ∨ kindAt t a = 4) ∧ ∀ x ∈ itemsV a RO,x.k = kindAt t a from ⟨by rw [← ha];exact rows_sum h h4,items_kindV h hl hac⟩))
 obtain ⟨TD,hTD⟩ : ∃ TD,t = TD:=⟨_,rfl⟩
 obtain ⟨QD,hQD⟩ : ∃ QD,q = QD:=⟨_,rfl⟩
 have HTD:=Ld hTD
 have HQD:=Ld hQD
 obtain ⟨OK,hOK⟩ : ∃ OK,PickOk pg wd t q P = OK:=⟨_,rfl⟩
 simp only [hOK] at HRB HRC
 rw [hOK]
 obtain ⟨RK,hRK⟩ : ∃ RK,RowsOk pg wd t q P = RK:=⟨_,rfl⟩
 have HRK:=Ld hRK
 simp only [hRK] at HRB HRC HQK HRS
 clear hf hOK hTD hQD hRK hn
 rcases t with ⟨tn,cols,keys⟩
 rcases q with ⟨qt,fr,tt,wh,qc,qd,ql,qf,qo,AF,cF,AT,cT,AW,cW,AC,cC⟩
 simp only [QryV.val,QryV.cells] at hfo HRB HRC HQK HRS HTD HQD ⊢
 obtain ⟨W0,hW0⟩ : ∃ W0,(((w.alloc (.cells #[.int .i64 pg,.int .i64 wd] 24)).alloc (.cells #[.string tn,.slice A cols.length c,.int .i64 keys] 27)).alloc (.cells #[.string qt,.slice AF fr.length cF,.slice AT tt.length cT,.slice AW wh.length cW,.slice AC qc.length cC,.bool qd,.int .i64 ql,.int .u8 qf,.string qo] 33)) = W0:=⟨_,rfl⟩
 have HW0:=Ld hW0
 have HBX:=Ld (fun W (h : Below (w.heap.size + 3) W0 W) => boxes_fq (hW0 ▸ h))
 have HS0:=Ld (show W0.heap.size = w.heap.size + 3 by rw [← hW0];simp)
 have HWB:=Ld (show Below w.heap.size w W0 by rw [← hW0];exact (two_below w _ _).alloc (by simp;omega) _)
 clear hR hQ hP hW0
 have e1 : (qf == 1) = false:=by rw [beq_eq_false_iff_ne];omega
 have e2 : (decide (qf > 1)) = true:=decide_eq_true (by omega)
 have HF2:=Ld hfo
 clear hfo
 go_enter Tryz.func19,Tryz.ntmps19
 go_upto_region 1 with fail
 rw [HW0.out]
 obtain ⟨⟨f0,f1⟩,⟨q0,q1,q2⟩,⟨a0,a1,a2,a3,a4,a5,a6,a7,a8⟩,q3,_⟩:=HBX.out W0 (Below.refl _ _)
 go_upto_region 2 with (go_at_call 43;go_must (refine (refRows_c26 pg wd A c ⟨tn,cols,keys⟩ ⟨qt,fr,tt,wh,qc,qd,ql,qf,qo,AF,cF,AT,cT,AW,cW,AC,cC⟩ AP cP P W0 (HR.out.below HWB.out) (HQ.out.below HWB.out) (HP.out.below HWB.out)).mono ?_;rw [HRK.out];rintro e w1 ⟨RO,RA,RC,n,rfl,ho,hrr,hbk,hlen,hcnt,hra,hb1⟩;have HRA:=Ld hra;have HO:=Ld ho;have HRR:=Ld hrr;have HBK:=Ld hbk;have HLN:=Ld hlen;have HCN:=Ld hcnt;have HB1:=Ld (show Below (w.heap.size + 3) W0 w1 by have:=hb1;rw [HS0.out] at this;exact this);clear ho hrr hbk hlen hcnt hra hb1 f0 f1 q0 q1 q2 a0 a1 a2 a3 a4 a5 a6 a7 a8 q3))
 obtain ⟨⟨f0,f1⟩,⟨q0,q1,q2⟩,⟨a0,a1,a2,a3,a4,a5,a6,a7,a8⟩,q3,q4⟩:=HBX.out _ HB1.out
 have HW:=Ld q4
 clear q4
 by_cases h0 : n = 0
 ·subst h0
  have e00 : ((0 : Nat) : Int) = 0:=rfl
  rw [e00]
  clear e00
  have HOV:=Ld (HQK.out _ HO.out)
  obtain ⟨a,ha⟩ : ∃ a : Nat,findC ⟨tn,cols,keys⟩ qo = a:=⟨_,(Int.toNat_of_nonneg HOV.out.1.1).symm⟩
  have HA:=Ld ha
  have HAC:=Ld (show a < cols.length by have:=HOV.out.1.2;have h:=HA.out;(try simp only at this);omega)
  have HRS2:=Ld (HRS.out RO HO.out HLN.out a ha HAC.out)
  have HRC2:=Ld (fun y n => HRC.out (rowsD RO) y n HO.out)
  simp only [ha,Int.toNat_natCast] at HRC2
  have hrb : RO.length ≤ 1048576:=Nat.le_trans HCN.out HNP.out
  clear ha
  go_wp2
  rename World => W1
  clear f0 f1 q0 q1 q2 a0 a1 a2 a3 a4 a5 a6 a7 a8
  go_loopw [13,12] (fun i v wr => ∃ (k : Nat) (ys : List VI),k ≤ RO.length ∧ i = .int .i64 k ∧ Hid (ys = itemsV a (RO.take k)) ∧ Hid (OwnI wr W1.heap.size v ys) ∧ Hid (Below W1.heap.size W1 wr)) (fun i _ _ => RO.length - (intOf i).toNat)
  case atStart => exact ⟨0,[],Nat.zero_le _,rfl,Ld (by simp [itemsV]),Ld (OwnI.nil _ _),Ld (Below.refl _ _)⟩
  case round =>
   obtain ⟨k,ys,hk,rfl,hys,hO,hB⟩:=hrel
   have HZ:=Ld (show w.heap.size + 3 ≤ W1.heap.size from by have:=HB1.out.size;rw [HS0.out] at this;exact this)
   have HBY:=Ld (fun W (h : Below wr.heap.size wr W) => HBX.out W (HB1.out.trans ((hB.out.trans (h.mono hB.out.size)).mono HZ.out)))
   have HFIN:=Ld (fun W (h : Below wr.heap.size wr W) => HW.out.trans ((hB.out.trans (h.mono hB.out.size)).mono HW.out.size))
   by_cases hlt : k < RO.length
   ·have HRW0:=Ld (fun W (h : Below wr.heap.size wr W) => HRR.out.below (hB.out.trans (h.mono hB.out.size)))
    obtain ⟨rb,ro,rfl⟩ : ∃ rb ro,RA = some ⟨rb,ro,none⟩:=by obtain ⟨b,o,e,_⟩:=HRR.out.rd.2 (by omega);exact ⟨b,o,e⟩
    have HRW:=Ld (fun W (h : Below wr.heap.size wr W) => row_at (HRW0.out W h).rd hlt)
    have HXW:=Ld (HRR.out.hx _ (List.getElem_mem hlt))
    have HXL:=Ld (HLN.out _ (List.getElem_mem hlt))
    have HTK0:=Ld (fun x hx ha y hy => items_take a RO k hlt (x:=x) hx ha (y:=y) hy)
    obtain ⟨x,hx⟩ : ∃ x,RO[k] = x:=⟨_,rfl⟩
    simp only [hx] at HRW HXW HXL
    have hal : a < x.l.length:=by have h1:=HXL.out;have h2:=HAC.out;(try simp only at h1);omega
    have HTK:=Ld (HTK0.out x hx hal)
    clear hx HTK0 HXL
    rcases x with ⟨xk,xb,xn,xf,xt,xA,xc,xl⟩
    simp only [VI.A,VI.c,VI.l] at HRW hal HTK
    have HXI:=Ld (show RdI W1 xA xc xl from HXW.out.list)
    obtain ⟨ab,ao,rfl⟩ : ∃ ab ao,xA = some ⟨ab,ao,none⟩:=by obtain ⟨b,o,e,_⟩:=HXI.out.rd.2 (by omega);exact ⟨b,o,e⟩
    have HCE:=Ld (fun W (h : Below wr.heap.size wr W) => item_at (HXI.out.below (hB.out.trans (h.mono hB.out.size))).rd hal)
    have HY:=Ld (HXI.out.hx _ (List.getElem_mem hal))
    obtain ⟨y,hy⟩ : ∃ y,xl[a] = y:=⟨_,rfl⟩
    have HTY:=Ld (HTK.out y hy)
    simp only [hy] at HCE HY
    clear hy HTK
    rcases y with ⟨yk,yb,yn,yf,yt,yA,yc,yl⟩
    simp only [VI.k,VI.b,VI.n,VI.f,VI.t,VI.A,VI.c,VI.l] at HCE HTY
    have HYL:=Ld (show ys.length ≤ k by rw [hys.out];exact Nat.le_trans (items_len _ _) (by rw [List.length_take];omega))
    go_upto_region 11 with fail
    go_cut [14] from 49 to 65 (fun s wx => ∃ g : Nat,s = .pointer (some ⟨g,0,none⟩) ∧ Hid (wr.heap.size ≤ g) ∧ Hid (wx.heap[g]? = some (.cells (c6 yk yb yn yf yt yA yl.length yc) 54 (0,0))) ∧ Hid (Below wr.heap.size wr wx))
    case first =>
     refine wp_region_tree (S:=fun W => Below wr.heap.size wr W)
      (.take 0 (.take 1 (.take 2 (.take 3 (.take 4 (.take 5 (.take 6 (.two 7 10 (.take 8 (.take 9 (.run 10 (.run 11 (.done))))) (.run 7 (.take 8 (.take 9 (.run 11 (.done))))))))))))) (by kernel_rfl) (by kernel_rfl) (by kernel_rfl) (fun _ _ d _ _ h => by cases d <;> exact h) (Below.refl _ _).drew ?_
     repeat (apply tree_take;(exact rfl);rfl;(intro W hW;obtain ⟨⟨f0,f1⟩,⟨q0,q1,q2⟩,⟨a0,a1,a2,a3,a4,a5,a6,a7,a8⟩,q3,_⟩:=HBY.out W hW;obtain ⟨p0,p1,p2,p3,p4,p5⟩:=HCE.out W hW;have r0:=HRW.out W hW;go_simp;(try with_reducible rfl));simp only [Act.put,List.setIfInBounds_toArray,List.set_cons_zero,List.set_cons_succ])
     refine tree_two ?_ ?_
     ·apply tree_run;(exact rfl);rfl;intro K hK;go_simp
      have hbd:=(Below.refl wr.heap.size wr).drew
      refine (find_c A c ⟨tn,cols,keys⟩ qo _ (HR.out.below (HFIN.out _ hbd))).mono ?_
      rw [HA.out]
      rintro e w2 ⟨rfl,hb⟩
      have HB2:=Ld (hbd.trans (hb.mono hbd.size))
      clear hb hbd
      refine hK.out _ _ HB2.out (fun _ => ?_)
      clear hK K
      try simp only [Act.put,List.setIfInBounds_toArray,List.set_cons_zero,List.set_cons_succ]
      repeat (apply tree_take;(exact rfl);rfl;(intro W hW;obtain ⟨⟨f0,f1⟩,⟨q0,q1,q2⟩,⟨a0,a1,a2,a3,a4,a5,a6,a7,a8⟩,q3,_⟩:=HBY.out W hW;obtain ⟨p0,p1,p2,p3,p4,p5⟩:=HCE.out W hW;have r0:=HRW.out W hW;go_simp;(try with_reducible rfl));simp only [Act.put,List.setIfInBounds_toArray,List.set_cons_zero,List.set_cons_succ])
      apply tree_run;(exact rfl);rfl;intro K hK;go_simp
      refine hK.out _ _ (HB2.out.alloc HB2.out.size (.cells (c6 0 false 0 0 ⟨#[]⟩ none 0 0) 54)) (fun _ => ?_)
      clear hK K
      try simp only [Act.put,List.setIfInBounds_toArray,List.set_cons_zero,List.set_cons_succ]
      apply tree_run;(exact rfl);rfl;intro K hK
      refine wp_store_row 54 (.tmp 14) (.tmp 58) rfl w2.heap.size (c6 yk yb yn yf yt yA yl.length yc) rfl rfl 54 _ (heap_alloc_new w2 _) (by kernel_rfl) rfl (one6 _ _ _ _ _ _ _ _) ?_
      have hb3:=below_setRow (HB2.out.alloc HB2.out.size (.cells (c6 0 false 0 0 ⟨#[]⟩ none 0 0) 54)) HB2.out.size (c6 yk yb yn yf yt yA yl.length yc)
      refine hK.out _ _ hb3 (fun _ => ?_)
      clear hK K
      try simp only [Act.put,List.setIfInBounds_toArray,List.set_cons_zero,List.set_cons_succ]
      refine tree_done ?_
      go_wp2
      go_meet
      case rel => exact ⟨w2.heap.size,rfl,Ld HB2.out.size,Ld (setRow_block _ _ _ _ _ _ (heap_alloc_new w2 _)),Ld hb3⟩
     ·apply tree_run;(exact rfl);rfl;intro K hK;go_simp
      have hbd:=((Below.refl wr.heap.size wr).alloc (Nat.le_refl _) (.cells (c6 0 false 0 0 ⟨#[]⟩ none 0 0) 54)).drew
      refine hK.out _ _ hbd (fun _ => ?_)
      clear hK K
      try simp only [Act.put,List.setIfInBounds_toArray,List.set_cons_zero,List.set_cons_succ]
      apply tree_run;(exact rfl);rfl;intro K hK;go_simp
      refine (find_c A c ⟨tn,cols,keys⟩ qo _ (HR.out.below (HFIN.out _ hbd))).mono ?_
      rw [HA.out]
      rintro e w2 ⟨rfl,hb⟩
      have HB2:=Ld (hbd.trans (hb.mono hbd.size))
      have HG2:=Ld (row_keep' (show (wr.alloc (.cells (c6 0 false 0 0 ⟨#[]⟩ none 0 0) 54)).drew.heap[wr.heap.size]? = _ from heap_alloc_new wr (.cells (c6 0 false 0 0 ⟨#[]⟩ none 0 0) 54)) hb)
      clear hb hbd
      refine hK.out _ _ HB2.out (fun _ => ?_)
      clear hK K
      try simp only [Act.put,List.setIfInBounds_toArray,List.set_cons_zero,List.set_cons_succ]
      repeat (apply tree_take;(exact rfl);rfl;(intro W hW;obtain ⟨⟨f0,f1⟩,⟨q0,q1,q2⟩,⟨a0,a1,a2,a3,a4,a5,a6,a7,a8⟩,q3,_⟩:=HBY.out W hW;obtain ⟨p0,p1,p2,p3,p4,p5⟩:=HCE.out W hW;have r0:=HRW.out W hW;go_simp;(try with_reducible rfl));simp only [Act.put,List.setIfInBounds_toArray,List.set_cons_zero,List.set_cons_succ])
      apply tree_run;(exact rfl);rfl;intro K hK
      refine wp_store_row 54 (.tmp 14) (.tmp 58) rfl wr.heap.size (c6 yk yb yn yf yt yA yl.length yc) rfl rfl 54 _ HG2.out (by kernel_rfl) rfl (one6 _ _ _ _ _ _ _ _) ?_
      have hb3:=below_setRow HB2.out (Nat.le_refl _) (c6 yk yb yn yf yt yA yl.length yc)
      refine hK.out _ _ hb3 (fun _ => ?_)
      clear hK K
      try simp only [Act.put,List.setIfInBounds_toArray,List.set_cons_zero,List.set_cons_succ]
      refine tree_done ?_
      go_wp2
      go_meet
      case rel => exact ⟨wr.heap.size,rfl,Ld (Nat.le_refl _),Ld (setRow_block _ _ _ _ _ _ HG2.out),Ld hb3⟩
    case rest =>
     obtain ⟨g,rfl,hg,hrow,hbx⟩:=hcut
     have p0:=cell_of_row _ _ 0 _ _ _ hrow.out
     by_cases hn : yk = 1
     ·have e3 : (yk != 1) = false:=by simp [hn]
      rw [keepY_null (y:=VI.mk yk yb yn yf yt yA yc yl) hn] at HTY
      clear hn
      go_wp2
      exact ⟨⟨k + 1,ys,by omega,by go_num,Ld (by rw [HTY.out,List.append_nil];exact hys.out),Ld (hO.out.below hbx.out),Ld (hB.out.trans (hbx.out.mono hB.out.size))⟩,by simp [intOf];omega⟩
     ·have e3 : (yk != 1) = true:=by simp [hn]
      rw [keepY_some (y:=VI.mk yk yb yn yf yt yA yc yl) hn] at HTY
      clear hn
      have HWX:=Ld (hB.out.trans (hbx.out.mono hB.out.size))
      go_wp2_with (first
       | (refine wpList_load_row rfl 54 (.tmp 14) rfl g rfl 54 (c6 yk yb yn yf yt yA yl.length yc) (0,0) _ hrow.out Tryz.underlying54 rfl (by kernel_rfl) ?_)
       | (at_builtin;go_must (have HO5:=Ld ((hO.out.below hbx.out).below ((Below.refl _ _).alloc (Nat.le_refl _) (.cells (c6 yk yb yn yf yt yA yl.length yc) 54)));refine wpList_items (B:=W1.heap.size) (l:=ys) (ys:=[VI.mk yk yb yn yf yt yA yc yl]) rfl (.tmp 62) (.tmp 64) rfl HO5.out rfl rfl (rd_items wc (c6 yk yb yn yf yt yA yl.length yc) [VI.mk yk yb yn yf yt yA yc yl] rfl (g:=wc.heap.size) rfl rfl) rfl (by intro y hy;obtain rfl : y = (VI.mk yk yb yn yf yt yA yc yl):=(by simpa using hy);exact (HY.out.grow HWX.out).grow ((Below.refl _ _).alloc (Nat.le_refl _) _)) (by intro y hy;obtain rfl : y = (VI.mk yk yb yn yf yt yA yc yl):=(by simpa using hy);exact HY.out.blk.mono fun j hj e => by have:=(hO.out.own.lt j e).1;omega) (by have:=HYL.out;omega) (Nat.le_trans HWX.out.size (by simp)) ?_;intro v2 w3 hO2 hK2 _;have HO2:=Ld hO2;have HK2:=Ld (hK2.belowOwn (HO5.out.own) (Nat.le_trans HWX.out.size (by simp)));clear hO2 hK2)))
      exact ⟨⟨k + 1,_,by omega,by go_num,Ld (by rw [HTY.out,← hys.out]),HO2,Ld ((HWX.out.alloc HWX.out.size _).trans HK2.out)⟩,by simp [intOf];omega⟩
   ·have HYS:=Ld (show ys = itemsV a RO by rw [hys.out,List.take_of_length_le (by omega)])
    have HDL:=Ld (show VI.dataL ys = itemsD a (rowsD RO) by rw [HYS.out];exact items_data a RO)
    have hyl : ys.length ≤ 1048576:=by rw [HYS.out];exact Nat.le_trans (items_len _ _) hrb
    obtain ⟨A',c',hv,hRI⟩:=hO.out.rdi (by omega)
    subst hv
    have HRI:=Ld hRI
    have HYB:=Ld (show ∀ x ∈ ys,BlkV (fun k => w.heap.size ≤ k) x by rw [HYS.out];exact items_blk fun x hx => (HBK.out x hx).mono fun k hk => Nat.le_trans HWB.out.size hk)
    have HWr:=Ld (HFIN.out wr (Below.refl _ _))
    have HRS3:=Ld (show 4 ≤ qf → (kindAt ⟨tn,cols,keys⟩ a = 3 ∨ kindAt ⟨tn,cols,keys⟩ a = 4) ∧ ∀ x ∈ ys,x.k = kindAt ⟨tn,cols,keys⟩ a by rw [HYS.out];exact HRS2.out)
    obtain ⟨⟨f0,f1⟩,⟨q0,q1,q2⟩,⟨a0,a1,a2,a3,a4,a5,a6,a7,a8⟩,q3,_⟩:=HBY.out wr (Below.refl _ _)
    clear hRI
    go_upto_region 15 with (first
     | (go_at_call 45;go_must (refine (refFold_c A c ⟨tn,cols,keys⟩ ⟨qt,fr,tt,wh,qc,qd,ql,qf,qo,AF,cF,AT,cT,AW,cW,AC,cC⟩ A' c' ys a (fun k => w.heap.size ≤ k) wr (HR.out.below HWr.out) (HQ.out.below HWr.out) HRI.out HA.out HAC.out ⟨HF2.out,HOV.out.2⟩ HRS3.out hyl HYB.out (fun k hk => Nat.le_trans HWr.out.size hk)).mono ?_;rintro e w3 ⟨Y,n,rfl,hfk,hr,hbk,hb3⟩;rw [HDL.out] at hfk;have HFK:=Ld (HRC2.out _ _ hfk);have HRY:=Ld hr;have HBKY:=Ld hbk;have HB3:=Ld (HWr.out.trans (hb3.mono HWr.out.size));rcases Y with ⟨zk,zb,zn,zf,zt,zA,zc,zl⟩;simp only [VI.val,VI.k,VI.b,VI.n,VI.f,VI.t,VI.A,VI.c,VI.l];clear hfk hr hbk hb3 f0 f1 q0 q1 q2 a0 a1 a2 a3 a4 a5 a6 a7 a8 q3)))
    have HBA:=Ld (HB3.out.alloc HB3.out.size (.cells (c6 zk zb zn zf zt zA zl.length zc) 54))
    by_cases hn : n = 0
    ·have z0:=zz hn
     have HFK3:=Ld (show OK [[(VI.mk zk zb zn zf zt zA zc zl).data]] 0 by have:=HFK.out;rw [if_pos hn,hn] at this;exact this)
     have HRO:=Ld (rd_one (w3.alloc (.cells (c6 zk zb zn zf zt zA zl.length zc) 54)) (VI.mk zk zb zn zf zt zA zc zl) (c6 zk zb zn zf zt zA zl.length zc) rfl (HRY.out.grow ((Below.refl _ _).alloc (Nat.le_refl _) _)) (g:=w3.heap.size + 1) (by simp))
     clear hn
     go_wp2
     go_ret2
     exact ⟨[rowV (some ⟨w3.heap.size + 1,0,none⟩) 1 [VI.mk zk zb zn zf zt zA zc zl]],_,1,0,rfl,HFK3.out,HRO.out,(by intro x hx;rw [List.mem_singleton.1 hx];exact BlkV.row (fun _ b o e => by cases e;have:=HB3.out.size;omega) (by intro y hy;rw [List.mem_singleton.1 hy];exact HBKY.out)),(fun b o e => by cases e;have:=HB3.out.size;omega),HBA.out.trans ((two_below _ _ _).mono HBA.out.size)⟩
    ·have z0:=nz hn
     have HFK3:=Ld (show OK [] n by have:=HFK.out;rw [if_neg hn] at this;exact this)
     clear hn
     go_wp2
     go_ret2
     exact ⟨[],none,0,n,rfl,HFK3.out,RdR.nil _ _,by simp,(by intro b o e;cases e),HBA.out⟩
 ·have z1:=nz h0
  have HAL:=Ld (HRB.out _ _ HO.out h0)
  clear h0
  go_wp2
  go_ret2
  exact ⟨[],none,0,n,rfl,HAL.out,RdR.nil _ _,by simp,(by intro b o e;cases e),HW.out⟩
end
section
open Go.RowKit
set_option maxHeartbeats 4000000
set_option maxRecDepth 100000
theorem refPickCols_c [Inhabited Thr] (pg wd : Int) (A : Option Addr) (c : Nat) (t : TabD) (q : QryV) (AP : Option Addr) (cP : Nat) (P : List (ByteArray × ByteArray)) (w : World) (hR : RdT w A c t) (hQ : RdQ w q) (hP : RdP w AP cP P) (hf : q.fold = 0) (hc : q.cols ≠ []) (hcb : q.cols.length * 64 ≤ 140737488355328) :
 Calls Tryz.prog 19 #[vF pg wd,vT t A c,q.val,.slice AP P.length cP] w (PickEndB (PickOk pg wd t q P) w):=by
 have HR:=Ld hR
 have HQ:=Ld hQ
 have HP:=Ld hP
 have hfo:=hf
 have HNC:=Ld (show 0 < q.cols.length from List.length_pos_iff.2 hc)
 have HRB:=Ld (fun rows n => rows_bad (pg:=pg) (wd:=wd) (t:=t) (q:=q) (P:=P) (rows:=rows) (n:=n))
 have HRC:=Ld (fun rows out (h : RowsOk pg wd t q P rows 0) (ho : out = rows.map (projD t q.cols)) => rows_pick h (come_cols (t:=t) (q:=q) (rows:=rows) (out:=out) hf hc ho))
 have HQK:=Ld (fun rows (h : RowsOk pg wd t q P rows 0) => (QOk.of (rows_chk h) (by omega)).cs)
 obtain ⟨TD,hTD⟩ : ∃ TD,t = TD:=⟨_,rfl⟩
 obtain ⟨QD,hQD⟩ : ∃ QD,q = QD:=⟨_,rfl⟩
 have HTD:=Ld hTD
 have HQD:=Ld hQD
 obtain ⟨OK,hOK⟩ : ∃ OK,PickOk pg wd t q P = OK:=⟨_,rfl⟩
 simp only [hOK] at HRB HRC
 rw [hOK]
 obtain ⟨RK,hRK⟩ : ∃ RK,RowsOk pg wd t q P = RK:=⟨_,rfl⟩
 have HRK:=Ld hRK
 simp only [hRK] at HRB HRC HQK
 clear hf hOK hTD hQD hRK hc
 rcases t with ⟨tn,cols,keys⟩
 rcases q with ⟨qt,fr,tt,wh,qc,qd,ql,qf,qo,AF,cF,AT,cT,AW,cW,AC,cC⟩
 simp only [QryV.val,QryV.cells] at hfo hcb HNC HRB HRC HQK HTD HQD ⊢
 obtain ⟨W0,hW0⟩ : ∃ W0,(((w.alloc (.cells #[.int .i64 pg,.int .i64 wd] 24)).alloc (.cells #[.string tn,.slice A cols.length c,.int .i64 keys] 27)).alloc (.cells #[.string qt,.slice AF fr.length cF,.slice AT tt.length cT,.slice AW wh.length cW,.slice AC qc.length cC,.bool qd,.int .i64 ql,.int .u8 qf,.string qo] 33)) = W0:=⟨_,rfl⟩
 have HW0:=Ld hW0
 have HBX:=Ld (fun W (h : Below (w.heap.size + 3) W0 W) => boxes_fq (hW0 ▸ h))
 have HS0:=Ld (show W0.heap.size = w.heap.size + 3 by rw [← hW0];simp)
 have HWB:=Ld (show Below w.heap.size w W0 by rw [← hW0];exact (two_below w _ _).alloc (by simp;omega) _)
 clear hR hQ hP hW0
 have e1 : (qf == 1) = false:=by rw [hfo];rfl
 have e2 : (decide (qf > 1)) = false:=by rw [hfo];rfl
 have hnc : ((qc.length : Int) == 0) = false:=eqf HNC.out
 clear hfo
 go_enter Tryz.func19,Tryz.ntmps19
 go_upto_region 1 with fail
 rw [HW0.out]
 obtain ⟨⟨f0,f1⟩,⟨q0,q1,q2⟩,⟨a0,a1,a2,a3,a4,a5,a6,a7,a8⟩,q3,_⟩:=HBX.out W0 (Below.refl _ _)
 go_upto_region 2 with (go_at_call 43;go_must (refine (refRows_c26 pg wd A c ⟨tn,cols,keys⟩ ⟨qt,fr,tt,wh,qc,qd,ql,qf,qo,AF,cF,AT,cT,AW,cW,AC,cC⟩ AP cP P W0 (HR.out.below HWB.out) (HQ.out.below HWB.out) (HP.out.below HWB.out)).mono ?_;rw [HRK.out];rintro e w1 ⟨RO,RA,RC,n,rfl,ho,hrr,hbk,hlen,hcnt,hra,hb1⟩;have HRA:=Ld hra;have HO:=Ld ho;have HRR:=Ld hrr;have HBK:=Ld hbk;have HLN:=Ld hlen;have HB1:=Ld (show Below (w.heap.size + 3) W0 w1 by have:=hb1;rw [HS0.out] at this;exact this);clear ho hrr hbk hlen hcnt hra hb1 f0 f1 q0 q1 q2 a0 a1 a2 a3 a4 a5 a6 a7 a8 q3))
 obtain ⟨⟨f0,f1⟩,⟨q0,q1,q2⟩,⟨a0,a1,a2,a3,a4,a5,a6,a7,a8⟩,q3,q4⟩:=HBX.out _ HB1.out
 have HW:=Ld q4
 clear q4
 by_cases h0 : n = 0
 ·subst h0
  have e00 : ((0 : Nat) : Int) = 0:=rfl
  rw [e00]
  clear e00
  have HCS:=Ld (HQK.out _ HO.out)
  have HRC2:=Ld (fun out => HRC.out (rowsD RO) out HO.out)
  have hrb:=HRR.out.hb
  go_wp2
  rename World => W1
  clear f0 f1 q0 q1 q2 a0 a1 a2 a3 a4 a5 a6 a7 a8
  have HZ:=Ld (show w.heap.size + 3 ≤ W1.heap.size from by have:=HB1.out.size;rw [HS0.out] at this;exact this)
  go_loopw [18,17] (fun i v wr => ∃ (k : Nat) (R : List VI),k ≤ RO.length ∧ i = .int .i64 k ∧ Hid (R.length = k) ∧ Hid (rowsD R = (rowsD (RO.take k)).map (projD TD qc)) ∧ Hid (∀ x ∈ R,BlkV (fun b => w.heap.size ≤ b) x) ∧ Hid (OwnR wr W1.heap.size v R) ∧ Hid (Below W1.heap.size W1 wr)) (fun i _ _ => RO.length - (intOf i).toNat)
  case atStart => exact ⟨0,[],Nat.zero_le _,rfl,Ld rfl,Ld (by simp [rowsD]),Ld (by simp),Ld (OwnR.nil _ _),Ld (Below.refl _ _)⟩
  case round =>
   obtain ⟨k,R,hk,rfl,hlen,hro,hrb2,hO,hB⟩:=hrel
   by_cases hlt : k < RO.length
   ·have HXW:=Ld (HRR.out.hx _ (List.getElem_mem hlt))
    have HXB:=Ld (HBK.out _ (List.getElem_mem hlt))
    have HXL:=Ld (HLN.out _ (List.getElem_mem hlt))
    obtain ⟨rb,ro,rfl⟩ : ∃ rb ro,RA = some ⟨rb,ro,none⟩:=by obtain ⟨b,o,e,_⟩:=HRR.out.rd.2 (by omega);exact ⟨b,o,e⟩
    have HRW0:=Ld (fun W (h : Below W1.heap.size W1 W) => row_at (HRR.out.below h).rd hlt)
    have HTK:=Ld (fun x (hx : RO[k] = x) => rows_take RO k hlt hx)
    obtain ⟨x,hx⟩ : ∃ x,RO[k] = x:=⟨_,rfl⟩
    have HTX:=Ld (HTK.out x hx)
    simp only [hx] at HRW0 HXW HXL HXB
    clear hx HTK
    rcases x with ⟨xk,xb,xn,xf,xt,xA,xc,xl⟩
    simp only [VI.A,VI.c,VI.l] at HRW0 HXL HTX
    have HXI:=Ld (show RdI W1 xA xc xl from HXW.out.list)
    have HXV:=Ld (show ∀ y ∈ xl,BlkV (fun b => w.heap.size ≤ b) y from fun y hy => (HXB.out.list y hy).mono fun b hb => Nat.le_trans HWB.out.size hb)
    go_wp2
    rename World => V
    have HBV:=Ld (fun W (h : Below V.heap.size V W) => hB.out.trans (h.mono hB.out.size))
    have HVZ:=Ld hB.out.size
    go_loopw [20,19] (fun j u wr => ∃ (m : Nat) (ys : List VI),m ≤ qc.length ∧ j = .int .i64 m ∧ Hid (ys.length = m) ∧ Hid (VI.dataL ys = projD TD (qc.take m) (VI.dataL xl)) ∧ Hid (OwnI wr V.heap.size u ys) ∧ Hid (∀ y ∈ ys,BlkV (fun b => w.heap.size ≤ b) y ∧ BlkV (fun b => b < W1.heap.size) y) ∧ Hid (Below V.heap.size V wr)) (fun j _ _ => qc.length - (intOf j).toNat)
    case atStart => exact ⟨0,[],Nat.zero_le _,rfl,Ld rfl,Ld (by simp [VI.dataL,projD]),Ld (OwnI.nil _ _),Ld (by simp),Ld (Below.refl _ _)⟩
    case round =>
     obtain ⟨m,ys,hm,rfl,hyl,hyd,hOy,hby,hB2⟩:=hrel
     have HBY:=Ld (fun W (h : Below V.heap.size V W) => HBX.out W (HB1.out.trans ((HBV.out W h).mono HZ.out)))
     have HFIN:=Ld (fun W (h : Below V.heap.size V W) => HW.out.trans ((HBV.out W h).mono HW.out.size))
     by_cases hlt2 : m < qc.length
     ·obtain ⟨cb,co,rfl⟩ : ∃ cb co,AC = some ⟨cb,co,none⟩:=by obtain ⟨b,o,e,_⟩:=HQ.out.cl.2 (show 0 < qc.length by omega);exact ⟨b,o,e⟩
      have HSW:=Ld (fun W (h : Below V.heap.size V W) => str_at (HQ.out.below (HFIN.out W h)).cl hlt2)
      have HSC:=Ld (HCS.out _ (List.getElem_mem hlt2))
      have HPT:=Ld (fun s (hs : qc[m] = s) => proj_take TD qc m hlt2 hs xl)
      simp only at HSW HSC
      obtain ⟨s,hs⟩ : ∃ s,qc[m] = s:=⟨_,rfl⟩
      have HPS:=Ld (HPT.out s hs)
      simp only [hs] at HSW HSC
      clear hs HPT
      obtain ⟨f,hf⟩ : ∃ f : Nat,findC ⟨tn,cols,keys⟩ s = f:=⟨_,(Int.toNat_of_nonneg HSC.out.1).symm⟩
      have HFI:=Ld hf
      have hfl : f < xl.length:=by have h1:=HSC.out.2;rw [hf] at h1;have h2:=HXL.out;(try simp only at h1 h2);omega
      have HPF:=Ld (fun y (hy : xl[f] = y) => HPS.out f (by rw [← HTD.out];exact hf) hfl (y:=y) hy)
      clear hf HPS
      obtain ⟨ab,ao,rfl⟩ : ∃ ab ao,xA = some ⟨ab,ao,none⟩:=by obtain ⟨b,o,e,_⟩:=HXI.out.rd.2 (by omega);exact ⟨b,o,e⟩
      have HRW:=Ld (fun W (h : Below V.heap.size V W) => HRW0.out W (HBV.out W h))
      have HCE:=Ld (fun W (h : Below V.heap.size V W) => item_at (HXI.out.below (HBV.out W h)).rd hfl)
      have HY:=Ld (HXI.out.hx _ (List.getElem_mem hfl))
      have HYB:=Ld (HXV.out _ (List.getElem_mem hfl))
      obtain ⟨y,hy⟩ : ∃ y,xl[f] = y:=⟨_,rfl⟩
      have HPY:=Ld (HPF.out y hy)
      simp only [hy] at HCE HY HYB
      clear hy HPF
      rcases y with ⟨yk,yb,yn,yf,yt,yA,yc,yl⟩
      simp only [VI.k,VI.b,VI.n,VI.f,VI.t,VI.A,VI.c,VI.l] at HCE
      obtain ⟨⟨f0,f1⟩,⟨q0,q1,q2⟩,⟨a0,a1,a2,a3,a4,a5,a6,a7,a8⟩,q3,_⟩:=HBY.out wr hB2.out
      go_upto_region 28 with fail
      clear f0 f1 q0 q1 q2 a0 a1 a2 a3 a4 a5 a6 a7 a8 q3
      refine wp_region_sched (S:=fun W => Below V.heap.size V W) [(0,true),(1,true),(2,true),(3,true),(4,true),(5,true),(6,true),(7,true),(8,true),(9,true),(10,true),(11,false),(12,true),(13,true),(14,false),(15,false),(16,true)] (by kernel_rfl) (by kernel_rfl) (by kernel_rfl) (fun _ _ d _ _ h => by cases d <;> exact h) hB2.out.drew ?_
      repeat (apply sched_take;(exact rfl);rfl;(intro W hW;obtain ⟨⟨f0,f1⟩,⟨q0,q1,q2⟩,⟨a0,a1,a2,a3,a4,a5,a6,a7,a8⟩,q3,_⟩:=HBY.out W hW;obtain ⟨p0,p1,p2,p3,p4,p5⟩:=HCE.out W hW;have r0:=HRW.out W hW;have s0:=HSW.out W hW;go_simp;(try with_reducible rfl));simp only [Act.put,List.setIfInBounds_toArray,List.set_cons_zero,List.set_cons_succ])
      apply sched_run;(exact rfl);rfl;intro K hK;go_simp
      have hbd:=(Below.refl wr.heap.size wr).drew
      refine (find_c A c ⟨tn,cols,keys⟩ s _ (HR.out.below (HFIN.out _ hB2.out.drew))).mono ?_
      rw [HFI.out]
      rintro e w2 ⟨rfl,hb⟩
      have HW2:=Ld (hbd.trans (hb.mono hbd.size))
      have HB2:=Ld (hB2.out.trans (HW2.out.mono hB2.out.size))
      clear hb hbd
      refine hK.out _ _ HB2.out (fun _ => ?_)
      clear hK K
      try simp only [Act.put,List.setIfInBounds_toArray,List.set_cons_zero,List.set_cons_succ]
      repeat (apply sched_take;(exact rfl);rfl;(intro W hW;obtain ⟨⟨f0,f1⟩,⟨q0,q1,q2⟩,⟨a0,a1,a2,a3,a4,a5,a6,a7,a8⟩,q3,_⟩:=HBY.out W hW;obtain ⟨p0,p1,p2,p3,p4,p5⟩:=HCE.out W hW;have r0:=HRW.out W hW;have s0:=HSW.out W hW;go_simp;(try with_reducible rfl));simp only [Act.put,List.setIfInBounds_toArray,List.set_cons_zero,List.set_cons_succ])
      apply sched_run;(exact rfl);rfl;intro K hK;go_simp
      have HB3:=Ld (HB2.out.alloc HB2.out.size (.cells (c6 yk yb yn yf yt yA yl.length yc) 54))
      refine hK.out _ _ HB3.out (fun _ => ?_)
      clear hK K
      try simp only [Act.put,List.setIfInBounds_toArray,List.set_cons_zero,List.set_cons_succ]
      have HO5:=Ld ((hOy.out.below HW2.out).below ((Below.refl _ _).alloc (Nat.le_refl _) (.cells (c6 yk yb yn yf yt yA yl.length yc) 54)))
      have HYW:=Ld (HY.out.grow (HBV.out _ HB3.out))
      apply sched_run;(exact rfl);rfl;intro K hK
      refine wp_items (B:=V.heap.size) (l:=ys) (ys:=[VI.mk yk yb yn yf yt yA yc yl]) (.tmp 97) (.tmp 111) rfl HO5.out rfl rfl (rd_items w2 (c6 yk yb yn yf yt yA yl.length yc) [VI.mk yk yb yn yf yt yA yc yl] rfl (g:=w2.heap.size) rfl rfl) rfl (by intro y hy;obtain rfl : y = (VI.mk yk yb yn yf yt yA yc yl):=(by simpa using hy);exact HYW.out) (by intro y hy;obtain rfl : y = (VI.mk yk yb yn yf yt yA yc yl):=(by simpa using hy);exact HY.out.blk.mono fun j hj e => by have h1:=(hOy.out.own.lt j e).1;have h2:=HVZ.out;omega) (by have:=hyl.out;omega) HB3.out.size ?_
      intro v2 w4 hO2 hK2 _
      have HO2:=Ld hO2
      have HB4:=Ld (HB3.out.trans (hK2.belowOwn HO5.out.own HB3.out.size))
      clear hO2 hK2
      refine hK.out _ _ HB4.out (fun _ => ?_)
      clear hK K
      try simp only [Act.put,List.setIfInBounds_toArray,List.set_cons_zero,List.set_cons_succ]
      repeat (apply sched_take;(exact rfl);rfl;(intro W hW;obtain ⟨⟨f0,f1⟩,⟨q0,q1,q2⟩,⟨a0,a1,a2,a3,a4,a5,a6,a7,a8⟩,q3,_⟩:=HBY.out W hW;obtain ⟨p0,p1,p2,p3,p4,p5⟩:=HCE.out W hW;have r0:=HRW.out W hW;have s0:=HSW.out W hW;go_simp;(try with_reducible rfl));simp only [Act.put,List.setIfInBounds_toArray,List.set_cons_zero,List.set_cons_succ])
      refine sched_done ?_
      go_wp2
      exact ⟨⟨m + 1,_,by omega,by go_num,Ld (by rw [List.length_append,hyl.out];rfl),Ld (by rw [dataL_app,hyd.out,HPY.out];simp [VI.dataL]),HO2,Ld (by
       intro y hy
       rcases List.mem_append.1 hy with hy | hy
       ·exact hby.out y hy
       ·rw [List.mem_singleton.1 hy];exact ⟨HYB.out,HY.out.blk⟩),HB4⟩,by simp [intOf];omega⟩
     ·have HTQ:=Ld (show qc.take m = qc from List.take_of_length_le (by omega))
      have HYL:=Ld (show ys.length * 64 ≤ 140737488355328 by rw [hyl.out];omega)
      obtain ⟨A',c',hv,hRI⟩:=hOy.out.rdi HYL.out
      subst hv
      have HRI:=Ld hRI
      have HOB:=Ld (own_block hOy.out.own)
      clear hRI
      obtain ⟨⟨f0,f1⟩,⟨q0,q1,q2⟩,⟨a0,a1,a2,a3,a4,a5,a6,a7,a8⟩,q3,_⟩:=HBY.out wr hB2.out
      go_wp2_with (at_builtin;go_must (have HO5:=Ld ((hO.out.below hB2.out).below ((Below.refl _ _).alloc (Nat.le_refl _) (.cells #[.slice A' ys.length c'] 28)));refine wpList_rows (B:=W1.heap.size) (R:=R) (ys:=[rowV A' c' ys]) rfl (.tmp 113) (.tmp 115) rfl HO5.out rfl rfl (rd_row wr A' c' ys rfl) rfl (by intro y hy;obtain rfl : y = rowV A' c' ys:=(by simpa using hy);exact (RdV.row HRI.out (own_hw hOy.out.own)).grow ((Below.refl _ _).alloc (Nat.le_refl _) _)) (by intro y hy;obtain rfl : y = rowV A' c' ys:=(by simpa using hy);exact BlkV.row (fun _ b o e h => by have h1:=(HOB.out b o e).1;have h2:=(hO.out.own.lt b h).2;omega) (fun z hz => (hby.out z hz).2.mono fun j hj e => by have h2:=(hO.out.own.lt j e).1;omega)) (by have:=hlen.out;omega) (Nat.le_trans HVZ.out (Nat.le_trans hB2.out.size (by simp))) ?_;intro v2 w4 hO2 hK2 _;have HO2:=Ld hO2;have HK2:=Ld (hK2.belowOwn HO5.out.own (Nat.le_trans HVZ.out (Nat.le_trans hB2.out.size (by simp))));clear hO2 hK2))
      exact ⟨⟨k + 1,_,by omega,by go_num,Ld (by rw [List.length_append,hlen.out];rfl),Ld (by rw [rowsD_app,hro.out,HTX.out,List.map_append,show rowsD [rowV A' c' ys] = [VI.dataL ys] from rfl,hyd.out,HTQ.out];rfl),Ld (by
       intro x hx
       rcases List.mem_append.1 hx with hx | hx
       ·exact hrb2.out x hx
       ·rw [List.mem_singleton.1 hx];exact BlkV.row (fun _ b o e => by have h1:=(HOB.out b o e).1;have h2:=HVZ.out;have h3:=HZ.out;omega) (fun z hz => (hby.out z hz).1)),HO2,Ld (((HBV.out _ hB2.out).alloc (Nat.le_trans HVZ.out hB2.out.size) _).trans HK2.out)⟩,by simp [intOf];omega⟩
   ·have HTA:=Ld (show RO.take k = RO from List.take_of_length_le (by omega))
    obtain ⟨A',c',hv,hRR⟩:=hO.out.rdr (by rw [hlen.out];omega)
    subst hv
    have HRR2:=Ld hRR
    have HWr:=Ld (HW.out.trans (hB.out.mono HW.out.size))
    clear hRR
    go_wp2
    go_ret2
    exact ⟨R,A',c',0,rfl,HRC2.out _ (by rw [hro.out,HTA.out,← HTD.out]),HRR2.out,hrb2.out,(fun b o e => by have h1:=(hO.out.own.lt b (by rw [e];rfl)).1;have h2:=HZ.out;omega),HWr.out⟩
 ·have z1:=nz h0
  have HAL:=Ld (HRB.out _ _ HO.out h0)
  clear h0
  go_wp2
  go_ret2
  exact ⟨[],none,0,n,rfl,HAL.out,RdR.nil _ _,by simp,(by intro b o e;cases e),HW.out⟩
theorem refPick_c [Inhabited Thr] (pg wd : Int) (A : Option Addr) (c : Nat) (t : TabD) (q : QryV) (AP : Option Addr) (cP : Nat) (P : List (ByteArray × ByteArray)) (w : World) (hR : RdT w A c t) (hQ : RdQ w q) (hP : RdP w AP cP P) (hn : P.length ≤ 1048576) (hcb : q.cols.length * 64 ≤ 140737488355328) :
 Calls Tryz.prog 19 #[vF pg wd,vT t A c,q.val,.slice AP P.length cP] w (PickEndB (PickOk pg wd t q P) w):=by
 have hf:=hQ.hf.1
 by_cases h2 : 2 ≤ q.fold
 ·exact refPickFold_c pg wd A c t q AP cP P w hR hQ hP h2 hn
 ·by_cases h1 : q.fold = 1
  ·exact refPickCount_c pg wd A c t q AP cP P w hR hQ hP h1
  ·have h0 : q.fold = 0:=by omega
   by_cases hc : q.cols = []
   ·exact refPickAll_c pg wd A c t q AP cP P w hR hQ hP h0 hc
   ·exact refPickCols_c pg wd A c t q AP cP P w hR hQ hP h0 hc hcb
end
end Go.Proofs.YtonjgedhmmnolaaGreatDoor
