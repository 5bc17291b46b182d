import Derived.Test.YtonjgedhmmnolaaGreatDoorZ12
namespace Go.Proofs.YtonjgedhmmnolaaGreatDoor
section
open Go.RowKit
set_option maxHeartbeats 1000000
set_option maxRecDepth 100000
theorem RowEnd.none_ [Inhabited Thr] {n : Nat} {w : World} {e : Ending} {w' : World} (h : RowEnd (none,n) w e w') : Below w.heap.size w w' ∧ e = .returned (.tuple #[.slice none 0 0,.int .i64 n]):=h
theorem RowEnd.some_ [Inhabited Thr] {n : Nat} {l : List ItemD} {w : World} {e : Ending} {w' : World} (h : RowEnd (some l,n) w e w') : Below w.heap.size w w' ∧ ∃ L A c,e = .returned (.tuple #[.slice A L.length c,.int .i64 0]) ∧ VI.dataL L = l ∧ OwnI w' w.heap.size (.slice A L.length c) L ∧ RdI w' A c L ∧ ∀ x ∈ L,BlkV (fun k => w.heap.size ≤ k) x:=h
theorem less_eq {a b : ByteArray} {l : List UInt8} (h : b.data.toList = l) {v : Bool} (hv : ltB a.data.toList l = v) : Op.bytesLess a.toList b.toList = v:=by
 rw [ByteArray.toList_eq,ByteArray.toList_eq,h];exact hv
theorem lim_pos {n : Int} (h : 0 < n) : decide (n > 0) = true:=decide_eq_true h
set_option maxHeartbeats 4000000 in
theorem Pick_c [Inhabited Thr] (pg wd : Int) (A : Option Addr) (c : Nat) (t : TabD) (q : QryV) (AP : Option Addr) (cP : Nat) (P : List (ByteArray × ByteArray)) (w : World) (hR : RdT w A c t) (hQ : RdQ w q) (hP : RdP w AP cP P) (hcell : ∃ m,w.cell? ⟨1,0,none⟩ = some (.int .i64 m))
 (hb : 2 ≤ q.fold → P.length * 64 ≤ 140737488355328) (hcb : q.cols.length * 64 ≤ 140737488355328) :
 Calls Tryz.prog 15 #[vF pg wd,vT t A c,q.val,.slice AP P.length cP] w (RowsEnd (PickOk pg wd t q P) w.heap.size w):=by
 have HR:=Ld hR
 have HQ:=Ld hQ
 have HP:=Ld hP
 have HC:=Ld hcell
 have HPB:=Ld hb
 have HCB:=Ld hcb
 have hkb:=hP.hb
 have hfo:=hQ.hf
 have HWX:=Ld hQ.wx
 have HQB:=Ld hQ.wb
 have HQL:=Ld hQ.hl
 have HPE:=Ld (pick_err (pg:=pg) (wd:=wd) (t:=t) (q:=q) (P:=P))
 have HPN:=Ld (fun h n => pick_none (pg:=pg) (wd:=wd) (t:=t) (q:=q) (P:=P) h (n:=n))
 have HPS:=Ld (fun h n m rows out => pick_some (pg:=pg) (wd:=wd) (t:=t) (q:=q) (P:=P) h (n:=n) (m:=m) (rows:=rows) (out:=out))
 have HSQ:=Ld (fun h => QOk.of (pg:=pg) (wd:=wd) (t:=t) (q:=q) (spanR_ok h) hfo.1)
 obtain ⟨OK,hOK⟩ : ∃ OK,PickOk pg wd t q P = OK:=⟨_,rfl⟩
 rw [hOK] at HPE
 simp only [hOK] at HPN HPS
 rw [hOK]
 obtain ⟨lo,hlo⟩ : ∃ x,(spanR pg wd t q).1 = x:=⟨_,rfl⟩
 obtain ⟨hi,hhi⟩ : ∃ x,(spanR pg wd t q).2.1 = x:=⟨_,rfl⟩
 obtain ⟨es,hes⟩ : ∃ x,(spanR pg wd t q).2.2 = x:=⟨_,rfl⟩
 have HLO:=Ld hlo
 have HHI:=Ld hhi
 have HES:=Ld hes
 rw [hes] at HPE HSQ
 simp only [hlo,hhi,hes] at HPN HPS
 obtain ⟨LO,hLO⟩ : ∃ x : ByteArray,(⟨lo.toArray⟩ : ByteArray) = x:=⟨_,rfl⟩
 obtain ⟨HI,hHI⟩ : ∃ x : ByteArray,(⟨hi.toArray⟩ : ByteArray) = x:=⟨_,rfl⟩
 have HLB:=Ld hLO
 have HHB:=Ld hHI
 have HLL:=Ld (show LO.data.toList = lo by rw [← hLO])
 have HHL:=Ld (show HI.data.toList = hi by rw [← hHI])
 obtain ⟨TD,hTD⟩ : ∃ TD,t = TD:=⟨_,rfl⟩
 obtain ⟨QD,hQD⟩ : ∃ QD,q = QD:=⟨_,rfl⟩
 have HTD:=Ld hTD
 have HQD:=Ld hQD
 rw [hTD,hQD] at HPS
 rcases t with ⟨tn,cols,keys⟩
 rcases q with ⟨qt,fr,tt,wh,qc,qd,ql,qf,qo,AF,cF,AT,cT,AW,cW,AC,cC⟩
 simp only [QryV.val,QryV.cells] at HPB HCB hfo HWX HQB HQL ⊢
 obtain ⟨W0,hW0⟩ : ∃ W0,(((w.alloc (.cells #[.int .i64 pg,.int .i64 wd] 24)).alloc (.cells #[.string tn,.slice A cols.length c,.int .i64 keys] 27)).alloc (.cells #[.string qt,.slice AF fr.length cF,.slice AT tt.length cT,.slice AW wh.length cW,.slice AC qc.length cC,.bool qd,.int .i64 ql,.int .u8 qf,.string qo] 33)) = W0:=⟨_,rfl⟩
 have HW0:=Ld hW0
 have HBX:=Ld (fun W (h : Below (w.heap.size + 3) W0 W) => boxes_fq (hW0 ▸ h))
 have HS0:=Ld (show W0.heap.size = w.heap.size + 3 by rw [← hW0];simp)
 have HWB:=Ld (show Below w.heap.size w W0 by rw [← hW0];exact (two_below w _ _).alloc (by simp;omega) _)
 clear hR hQ hP hcell hb hcb hW0 hTD hQD hOK hlo hhi hes hLO hHI
 by_cases h0 : es = 0
 ·have HOKQ:=Ld (HSQ.out h0)
  have HPN2:=Ld (fun n => HPN.out h0 n)
  have HPS2:=Ld (fun n m rows out => HPS.out h0 n m rows out)
  have z0:=zz h0
  clear h0
  go_enter Tryz.func15,Tryz.ntmps15
  go_wp2_with (go_at_call 10;go_must (rw [HW0.out];refine (Span_query_c pg wd A c ⟨tn,cols,keys⟩ ⟨qt,fr,tt,wh,qc,qd,ql,qf,qo,AF,cF,AT,cT,AW,cW,AC,cC⟩ W0 (HR.out.below HWB.out) (HQ.out.below HWB.out) (cell_keep HC.out (Nat.le_refl _) HWB.out)).mono ?_;rw [HLO.out,HHI.out,HES.out,HLB.out,HHB.out];rintro e w1 ⟨rfl,hb1⟩;have HB1:=Ld (show Below (w.heap.size + 3) W0 w1 by have:=hb1;rw [HS0.out] at this;exact this);clear hb1))
  go_loopw [35,13] (fun i v wr => ∃ (k : Nat) (R : List VI),k ≤ P.length ∧ i = .int .i64 k ∧ Hid (R.length ≤ k) ∧ Hid (rowsA pg wd ⟨tn,cols,keys⟩ lo hi [] P = rowsA pg wd ⟨tn,cols,keys⟩ lo hi (rowsD R) (P.drop k)) ∧ Hid (∀ x ∈ R,x.l.length = cols.length ∧ BlkV (fun b => w.heap.size + 3 ≤ b) x) ∧ Hid (OwnR wr (w.heap.size + 3) v R) ∧ Hid (Below (w.heap.size + 3) W0 wr)) (fun i _ _ => P.length - (intOf i).toNat)
  case atStart => exact ⟨0,[],Nat.zero_le _,rfl,Ld (Nat.le_refl _),Ld rfl,Ld (by simp),Ld (OwnR.nil _ _),HB1⟩
  case round =>
   obtain ⟨k,R,hk,rfl,hrl,hrows,hrc,hO,hB⟩:=hrel
   obtain ⟨⟨f0,f1⟩,⟨q0,q1,q2⟩,⟨a0,a1,a2,a3,a4,a5,a6,a7,a8⟩,q3,q4⟩:=HBX.out _ hB.out
   have HW:=Ld q4
   clear q4
   have q5 : w.heap.size < wr.heap.size:=by omega
   have q6 : w.heap.size + 1 < wr.heap.size:=by omega
   by_cases hlt : k < P.length
   ·have HPr:=Ld (HP.out.below HW.out)
    obtain ⟨pb,po,rfl⟩ : ∃ pb po,AP = some ⟨pb,po,none⟩:=by obtain ⟨b,o,e,_⟩:=HPr.out.rd.2 (by omega);exact ⟨b,o,e⟩
    obtain ⟨p0,p1⟩:=pair_at HPr.out.rd hlt
    have HSK:=Ld (fun p (hp : P[k] = p) => rowsA_skip (pg:=pg) (wd:=wd) (t:=⟨tn,cols,keys⟩) (lo:=lo) (hi:=hi) (acc:=rowsD R) hlt hp)
    have HNO:=Ld (fun p (hp : P[k] = p) h1 h2 n => rowsA_none (pg:=pg) (wd:=wd) (t:=⟨tn,cols,keys⟩) (lo:=lo) (hi:=hi) (acc:=rowsD R) hlt hp h1 h2 (n:=n))
    have HSO:=Ld (fun p (hp : P[k] = p) h1 h2 n r => rowsA_some (pg:=pg) (wd:=wd) (t:=⟨tn,cols,keys⟩) (lo:=lo) (hi:=hi) (acc:=rowsD R) hlt hp h1 h2 (n:=n) (r:=r))
    obtain ⟨p,hp⟩ : ∃ p,P[k] = p:=⟨_,rfl⟩
    have HSK2:=Ld (HSK.out p hp)
    have HNO2:=Ld (HNO.out p hp)
    have HSO2:=Ld (HSO.out p hp)
    rw [hp] at p0 p1
    clear hp HSK HNO HSO
    rcases p with ⟨kb,vb⟩
    simp only at p0 p1 HSK2 HNO2 HSO2
    have HWA:=Ld (HW.out.alloc HW.out.size (.cells #[.string kb,.string vb] 56))
    have HBA:=Ld (hB.out.alloc (show w.heap.size + 3 ≤ wr.heap.size from q3) (.cells #[.string kb,.string vb] 56))
    cases hl1 : ltB kb.data.toList lo with
    | true =>
      have e1:=less_eq HLL.out hl1
      have HS:=Ld (HSK2.out (.inl hl1))
      clear hl1
      go_wp2
      exact ⟨⟨k + 1,R,by omega,by go_num,Ld (by have:=hrl.out;omega),Ld (by rw [hrows.out,HS.out]),hrc,Ld (hO.out.below ((Below.refl _ _).alloc (Nat.le_refl _) _)),HBA⟩,by simp [intOf];omega⟩
    | false =>
      have e1:=less_eq HLL.out hl1
      have H1:=Ld hl1
      clear hl1
      cases hl2 : ltB kb.data.toList hi with
      | false =>
        have e2:=less_eq HHL.out hl2
        have HS:=Ld (HSK2.out (.inr hl2))
        clear hl2
        go_wp2
        exact ⟨⟨k + 1,R,by omega,by go_num,Ld (by have:=hrl.out;omega),Ld (by rw [hrows.out,HS.out]),hrc,Ld (hO.out.below ((Below.refl _ _).alloc (Nat.le_refl _) _)),HBA⟩,by simp [intOf];omega⟩
      | true =>
        have e2:=less_eq HHL.out hl2
        have H2:=Ld hl2
        clear hl2
        obtain ⟨o,n,hrr⟩ : ∃ o n,rowR pg wd ⟨tn,cols,keys⟩ kb.data.toList vb.data.toList = (o,n):=⟨_,_,rfl⟩
        have HRR:=Ld hrr
        cases o with
        | none =>
          have HN:=Ld (HNO2.out H1.out H2.out n hrr)
          have z1:=nz (rowR_err hrr)
          have HAL:=Ld (HPN2.out n (hrows.out.trans HN.out))
          clear hrr
          go_wp2_with (go_at_call 34;go_must (refine (RowOf_c pg wd A c ⟨tn,cols,keys⟩ kb vb _ (HR.out.below HWA.out) (cell_keep HC.out (Nat.le_refl _) HWA.out)).mono ?_;rw [HRR.out];intro e w1 h;obtain ⟨hb,rfl⟩:=RowEnd.none_ h;have HB2:=Ld hb;clear h hb f0 f1 q0 q1 q2 a0 a1 a2 a3 a4 a5 a6 a7 a8 p0 p1))
          go_ret2
          exact ⟨[],none,0,n,rfl,HAL.out,RdR.nil _ _,OwnR.nil _ _,by simp,HWA.out.trans (HB2.out.mono HWA.out.size)⟩
        | some r =>
          have HS:=Ld (HSO2.out H1.out H2.out n r hrr)
          have HRC:=Ld (rowR_cols hrr)
          clear hrr
          go_wp2_with (first
           | (go_at_call 34;go_must (refine (RowOf_c pg wd A c ⟨tn,cols,keys⟩ kb vb _ (HR.out.below HWA.out) (cell_keep HC.out (Nat.le_refl _) HWA.out)).mono ?_;rw [HRR.out];intro e w1 h;obtain ⟨hb,L,A',c',rfl,hd,hOI,hRI,hbk⟩:=RowEnd.some_ h;have HB2:=Ld (((Below.refl wr.heap.size wr).alloc (Nat.le_refl _) _).trans (hb.mono (by simp)));have HD:=Ld hd;have HOI:=Ld hOI;have HRI:=Ld hRI;have HBK:=Ld (fun x hx => (hbk x hx).mono (Q:=fun j => wr.heap.size ≤ j) (fun j hj => by simp at hj;omega));have HOB:=Ld (own_block hOI.own);clear h hb hd hOI hRI hbk f0 f1 q0 q1 q2 a0 a1 a2 a3 a4 a5 a6 a7 a8 p0 p1))
           | (at_builtin;go_must (have HO5:=Ld ((hO.out.below HB2.out).below ((Below.refl _ _).alloc (Nat.le_refl _) (.cells #[.slice A' L.length c'] 28)));refine wpList_rows (B:=w.heap.size + 3) (R:=R) (ys:=[rowV A' c' L]) rfl (.tmp 59) (.tmp 61) rfl HO5.out rfl rfl (rd_row w1 A' c' L rfl) rfl (by intro y hy;obtain rfl : y = rowV A' c' L:=(by simpa using hy);exact (RdV.row HRI.out (own_hw HOI.out.own)).grow ((Below.refl _ _).alloc (Nat.le_refl _) _)) (by intro y hy;obtain rfl : y = rowV A' c' L:=(by simpa using hy);exact BlkV.row (fun _ b o e h => by have h1:=(HOB.out b o e).1;have h2:=(hO.out.own.lt b h).2;simp at h1;omega) (fun z hz => (HBK.out z hz).mono fun j hj e => by have h2:=(hO.out.own.lt j e).2;omega)) (by have:=hrl.out;omega) (Nat.le_trans (show w.heap.size + 3 ≤ wr.heap.size from q3) (Nat.le_trans HB2.out.size (by simp))) ?_;intro v2 w4 hO2 hK2 _;have HO2:=Ld hO2;have HK2:=Ld (hK2.belowOwn HO5.out.own (Nat.le_trans (show w.heap.size + 3 ≤ wr.heap.size from q3) (Nat.le_trans HB2.out.size (by simp))));clear hO2 hK2)))
          exact ⟨⟨k + 1,_,by omega,by go_num,Ld (by rw [List.length_append];have:=hrl.out;simp;omega),Ld (by rw [hrows.out,HS.out,rowsD_app,show rowsD [rowV A' c' L] = [VI.dataL L] from rfl,HD.out]),Ld (by
           intro x hx
           rcases List.mem_append.1 hx with hx | hx
           ·exact hrc.out x hx
           ·rw [List.mem_singleton.1 hx];have h1:=HRC.out.2;rw [← HD.out,dataL_eq,List.length_map] at h1;exact ⟨h1,BlkV.row (fun _ b o e => by have h1:=(HOB.out b o e).1;simp at h1;omega) (fun z hz => (HBK.out z hz).mono fun j hj => by omega)⟩),HO2,Ld (((hB.out.trans (HB2.out.mono q3)).alloc (Nat.le_trans q3 HB2.out.size) _).trans HK2.out)⟩,by simp [intOf];omega⟩
   ·have HTA:=Ld (show rowsA pg wd ⟨tn,cols,keys⟩ lo hi [] P = (some (rowsD R),0) by rw [hrows.out,List.drop_eq_nil_of_le (by omega)];rfl)
    have HRB:=Ld (show R.length * 32 ≤ 140737488355328 by have:=hrl.out;omega)
    go_upto_if 65 with fail
    go_cut [] from 66 (fun wx => ∃ R2 : List VI,Hid (rowsD R2 = if qd = true then (rowsD R).reverse else rowsD R) ∧ Hid (R2.length = R.length) ∧ Hid (∀ x ∈ R2,x.l.length = cols.length ∧ BlkV (fun b => w.heap.size + 3 ≤ b) x) ∧ Hid (OwnR wx (w.heap.size + 3) u13 R2) ∧ Hid (Below (w.heap.size + 3) W0 wx))
    case first =>
     cases qd with
     | true =>
       go_wp2_with (go_at_call 35;go_must (refine (reverse_c hO.out (by have:=HRB.out;omega)).mono ?_;rintro e w1 ⟨rfl,ho,hk⟩;have HO1:=Ld ho;have HK1:=Ld (hk.belowOwn hO.out.own (show w.heap.size + 3 ≤ wr.heap.size from q3));clear ho hk f0 f1 q0 q1 q2 a0 a1 a2 a3 a4 a5 a6 a7 a8))
       go_meet
       case rel => exact ⟨R.reverse,Ld (by simp only [if_true];exact List.map_reverse ..),Ld (List.length_reverse ..),Ld (fun x hx => hrc.out x (List.mem_reverse.1 hx)),HO1,Ld (hB.out.trans HK1.out)⟩
     | false =>
       go_wp2
       go_meet
       case rel => exact ⟨R,Ld (by simp),Ld rfl,hrc,hO,hB⟩
    case rest =>
     obtain ⟨R2,hr2,hl2,hc2,hO2,hB2⟩:=hcut
     clear f0 f1 q0 q1 q2 a0 a1 a2 a3 a4 a5 a6 a7 a8 q3 q5 q6
     have HL2:=Ld (show R2.length * 24 ≤ 140737488355328 by rw [hl2.out];have:=HRB.out;omega)
     have hR2b : R2.length ≤ 5864062014805:=by have:=HL2.out;omega
     obtain ⟨AR,cR,hv,hRR⟩:=hO2.out.rdr HL2.out
     subst hv
     have HRR:=Ld hRR
     clear hRR
     obtain ⟨⟨f0,f1⟩,⟨q0,q1,q2⟩,⟨a0,a1,a2,a3,a4,a5,a6,a7,a8⟩,q3,q4⟩:=HBX.out _ hB2.out
     have HWc:=Ld q4
     clear q4
     have q5 : w.heap.size < wc.heap.size:=by omega
     have q6 : w.heap.size + 1 < wc.heap.size:=by omega
     go_wp2_with (go_at_call 36;go_must (refine (tests_c A c ⟨tn,cols,keys⟩ ⟨qt,fr,tt,wh,qc,qd,ql,qf,qo,AF,cF,AT,cT,AW,cW,AC,cC⟩ _ (HR.out.below HWc.out) (HQ.out.below HWc.out)).mono ?_;rintro e w2 ⟨tv,T,rfl,hot,htw,hb⟩;obtain ⟨AT',cT',rfl,hcT,hRT⟩:=own_rd hot.own;have HRT:=Ld hRT;have HTX:=Ld hot.hx;have HTW:=Ld htw;have HB2:=Ld hb;clear hot hRT hcT htw hb f0 f1 q0 q1 q2 a0 a1 a2 a3 a4 a5 a6 a7 a8 q3 q5 q6))
     have HW2:=Ld (HWc.out.trans (HB2.out.mono HWc.out.size))
     have HRR2:=Ld (HRR.out.below HB2.out)
     have HTL:=Ld (show T.length * 8 ≤ 140737488355328 by have:=congrArg List.length HTW.out;rw [List.length_map] at this;have:=HQB.out;omega)
     have HTY:=Ld (fun x (hx : x ∈ T) => show TestAt w2 ⟨tn,cols,keys⟩ x ∧ RdV w2 x.c.item ∧ 0 ≤ findC ⟨tn,cols,keys⟩ x.c.col ∧ findC ⟨tn,cols,keys⟩ x.c.col < cols.length from ⟨HTX.out x hx,(HWX.out x.c (by have:=List.mem_map_of_mem (f:=TestV.c) hx;rw [HTW.out] at this;exact this)).1.grow HW2.out,HOKQ.out.wc x.c (by have:=List.mem_map_of_mem (f:=TestV.c) hx;rw [HTW.out] at this;exact this)⟩)
     go_loopw [73,19] (fun i v wr => ∃ (k : Nat) (K : List VI),k ≤ R2.length ∧ i = .int .i64 k ∧ Hid (K = keptV ⟨tn,cols,keys⟩ wh (R2.take k)) ∧ Hid (0 < ql → (K.length : Int) ≤ ql) ∧ Hid (OwnR wr w2.heap.size v K) ∧ Hid (Below w2.heap.size w2 wr)) (fun i _ _ => R2.length - (intOf i).toNat)
     case atStart => exact ⟨0,[],Nat.zero_le _,rfl,Ld (by simp [keptV]),Ld (fun h => by simp;omega),Ld (OwnR.nil _ _),Ld (Below.refl _ _)⟩
     case round =>
      obtain ⟨k,K,hk2,rfl,hK,hKL,hOK,hBK⟩:=hrel
      have HKN:=Ld (show K.length ≤ k by rw [hK.out];exact Nat.le_trans (keptV_len _ _ _) (by rw [List.length_take];omega))
      obtain ⟨AK,cK,hv,hKR⟩:=hOK.out.rdr (by have:=HKN.out;have:=HL2.out;omega)
      subst hv
      have HKR:=Ld hKR
      clear hKR
      have HWr:=Ld (HW2.out.trans (hBK.out.mono HW2.out.size))
      have HBR:=Ld ((hB2.out.trans (HB2.out.mono (hB2.out.size |> fun h => by rw [HS0.out] at h;exact h))).trans (hBK.out.mono (Nat.le_trans (hB2.out.size |> fun h => by rw [HS0.out] at h;exact h) HB2.out.size)))
      obtain ⟨⟨f0,f1⟩,⟨q0,q1,q2⟩,⟨a0,a1,a2,a3,a4,a5,a6,a7,a8⟩,q3,q4⟩:=HBX.out _ HBR.out
      clear q4
      have q5 : w.heap.size < wr.heap.size:=by omega
      have q6 : w.heap.size + 1 < wr.heap.size:=by omega
      have HKC:=Ld (fun x (hx : x ∈ K) => (hc2.out x (by rw [hK.out] at hx;exact List.mem_of_mem_take (List.mem_filter.1 hx).1)).1)
      have HKC2:=Ld (fun x (hx : x ∈ K) => (hc2.out x (by rw [hK.out] at hx;exact List.mem_of_mem_take (List.mem_filter.1 hx).1)).2.mono (Q:=fun b => w.heap.size ≤ b) (fun j hj => by omega))
      have HKB:=Ld (fun (h : 2 ≤ qf) => show K.length * 64 ≤ 140737488355328 by have:=HPB.out h;have:=HKN.out;have:=hl2.out;have:=hrl.out;omega)
      by_cases hlt2 : k < R2.length
      ·have HRRr:=Ld (HRR2.out.below hBK.out)
       obtain ⟨rb,ro,rfl⟩ : ∃ rb ro,AR = some ⟨rb,ro,none⟩:=by obtain ⟨b,o,e,_⟩:=HRRr.out.rd.2 (by omega);exact ⟨b,o,e⟩
       have r0:=row_at HRRr.out.rd hlt2
       have HXW:=Ld (HRR2.out.hx _ (List.getElem_mem hlt2))
       have HRL:=Ld ((hc2.out _ (List.getElem_mem hlt2)).1)
       have HKT:=Ld (fun x (hx : R2[k] = x) b hb => keptV_take ⟨tn,cols,keys⟩ wh R2 k hlt2 hx (b:=b) hb)
       obtain ⟨x,hx⟩ : ∃ x,R2[k] = x:=⟨_,rfl⟩
       have HKX:=Ld (HKT.out x hx)
       simp only [hx] at r0 HXW HRL
       clear hx HKT
       rcases x with ⟨xk,xb,xn,xf,xt,xA,xc,xl⟩
       simp only [VI.A,VI.c,VI.l] at r0 HRL HKX
       have HXI:=Ld (show RdI w2 xA xc xl from HXW.out.list)
       have HWB2:=Ld (HWr.out.alloc HWr.out.size (.cells #[.slice xA xl.length xc] 28))
       have HBK2:=Ld (hBK.out.alloc hBK.out.size (.cells #[.slice xA xl.length xc] 28))
       by_cases hbrk : 0 < ql ∧ (K.length : Int) = ql
       ·have HKE:=Ld (show rowsD K = keptD ⟨tn,cols,keys⟩ ⟨qt,fr,tt,wh,qc,qd,ql,qf,qo,AF,cF,AT,cT,AW,cW,AC,cC⟩ (rowsD R2) from kept_end hK.out (.inl hbrk))
        have g1:=lim_pos hbrk.1
        have g2 : ((K.length : Int) == ql) = true:=by rw [hbrk.2];simp
        have hq0:=hbrk.1
        clear hbrk
        have HPO:=Ld (fun out m (h : ComeOk ⟨tn,cols,keys⟩ ⟨qt,fr,tt,wh,qc,qd,ql,qf,qo,AF,cF,AT,cT,AW,cW,AC,cC⟩ (rowsD K) out m) => HPS2.out 0 m (rowsD R) out (by rw [← HTD.out];exact HTA.out) (by rw [← HTD.out,← HQD.out];simp only;rw [← hr2.out,← HKE.out];exact h))
        go_wp2_with (go_at_call 39;go_must (refine (come_c A c ⟨tn,cols,keys⟩ ⟨qt,fr,tt,wh,qc,qd,ql,qf,qo,AF,cF,AT,cT,AW,cW,AC,cC⟩ AK cK K _ (HR.out.below HWB2.out) (HQ.out.below HWB2.out) (HKR.out.below ((Below.refl _ _).alloc (Nat.le_refl _) _)) HOKQ.out HKC.out HKB.out HCB.out (HWB2.out.size) ((show OwnR _ w.heap.size _ _ from ⟨ownsRow_mono' hOK.out.own HW2.out.size,hOK.out.rd,hOK.out.ne⟩).below ((Below.refl _ _).alloc (Nat.le_refl _) _)) HKC2.out).mono ?_;rintro e w9 ⟨RO,AO,cO,nO,rfl,hok,hrd,ho9,hbk9,hb9⟩;have HOK9:=Ld hok;have HRD9:=Ld hrd;have HO9:=Ld ho9;have HBK9:=Ld hbk9;have HB9:=Ld hb9;clear hok hrd ho9 hbk9 hb9 f0 f1 q0 q1 q2 a0 a1 a2 a3 a4 a5 a6 a7 a8))
        go_ret2
        exact ⟨RO,AO,cO,nO,rfl,HPO.out _ _ HOK9.out,HRD9.out,HO9.out,HBK9.out,HWB2.out.trans (HB9.out.mono HWB2.out.size)⟩
       ·have HLQ:=Ld (show 0 < ql → (K.length : Int) + 1 ≤ ql from fun h => by have:=hKL.out h;omega)
        obtain ⟨kb,hkb2⟩ : ∃ b,keepD ⟨tn,cols,keys⟩ wh (VI.dataL xl) = b:=⟨_,rfl⟩
        have HKK:=Ld (HKX.out kb hkb2)
        have HCN:=Ld (fun W (hW : Below w2.heap.size w2 W) g hg => containsT_c ⟨tn,cols,keys⟩ T AT' cT' g xA xc xl W (HRT.out.below hW) HTL.out (fun x hx => ⟨(HTY.out x hx).1.below hW,(HTY.out x hx).2.1.grow hW,(HTY.out x hx).2.2.1,by rw [HRL.out];exact (HTY.out x hx).2.2.2⟩) (HXI.out.below hW) hg)
        simp only [HTW.out,hkb2] at HCN
        have HG:=Ld (heap_alloc_new wr (.cells #[.slice xA xl.length xc] 28))
        clear hkb2
        by_cases hq : 0 < ql
        ·have g1:=lim_pos hq
         have g2 : ((K.length : Int) == ql) = false:=by rw [beq_eq_false_iff_ne];exact fun h => hbrk ⟨hq,h⟩
         clear hbrk
         cases kb with
         | true =>
           go_wp2_with (first
            | (go_at_call 37;go_must (refine (HCN.out _ HBK2.out wr.heap.size (cell_of_row _ _ 0 _ _ _ HG.out)).mono ?_;rintro e w3 ⟨rfl,hb3⟩;have HB3:=Ld (HBK2.out.trans (hb3.mono HBK2.out.size));have HG3:=Ld (row_keep' HG.out hb3);have HR3:=Ld (((Below.refl wr.heap.size wr).alloc (Nat.le_refl _) (.cells #[.slice xA xl.length xc] 28)).trans (hb3.mono (by simp)));have g0:=cell_of_row _ _ 0 _ _ _ HG3.out;clear hb3 f0 f1 q0 q1 q2 a0 a1 a2 a3 a4 a5 a6 a7 a8 r0))
            | (at_builtin;go_must (have HO5:=Ld ((hOK.out.below HR3.out).below ((Below.refl _ _).alloc (Nat.le_refl _) (.cells #[.slice xA xl.length xc] 28)));refine wpList_rows (B:=w2.heap.size) (R:=K) (ys:=[VI.mk xk xb xn xf xt xA xc xl]) rfl (.tmp 91) (.tmp 93) rfl HO5.out rfl rfl (rd_row w3 xA xc xl rfl) rfl (by intro y hy;obtain rfl : y = VI.mk xk xb xn xf xt xA xc xl:=(by simpa using hy);exact (HXW.out.grow HB3.out).grow ((Below.refl _ _).alloc (Nat.le_refl _) _)) (by intro y hy;obtain rfl : y = VI.mk xk xb xn xf xt xA xc xl:=(by simpa using hy);exact HXW.out.blk.mono fun j hj e => by have h2:=(hOK.out.own.lt j e).1;omega) (by have:=HKN.out;have:=HL2.out;omega) (Nat.le_trans hBK.out.size (Nat.le_trans HR3.out.size (by simp))) ?_;intro v2 w4 hO5 hK5 _;have HO6:=Ld hO5;have HK6:=Ld (hK5.belowOwn HO5.out.own (Nat.le_trans hBK.out.size (Nat.le_trans HR3.out.size (by simp))));clear hO5 hK5)))
           exact ⟨⟨k + 1,_,by omega,by go_num,Ld (by rw [HKK.out,← hK.out];rfl),Ld (fun h => by have:=HLQ.out h;rw [List.length_append];simp;omega),HO6,Ld ((HB3.out.alloc HB3.out.size _).trans HK6.out)⟩,by simp [intOf];omega⟩
         | false =>
           go_wp2_with (go_at_call 37;go_must (refine (HCN.out _ HBK2.out wr.heap.size (cell_of_row _ _ 0 _ _ _ HG.out)).mono ?_;rintro e w3 ⟨rfl,hb3⟩;have HB3:=Ld (HBK2.out.trans (hb3.mono HBK2.out.size));have HG3:=Ld (row_keep' HG.out hb3);have HR3:=Ld (((Below.refl wr.heap.size wr).alloc (Nat.le_refl _) (.cells #[.slice xA xl.length xc] 28)).trans (hb3.mono (by simp)));have g0:=cell_of_row _ _ 0 _ _ _ HG3.out;clear hb3 f0 f1 q0 q1 q2 a0 a1 a2 a3 a4 a5 a6 a7 a8 r0))
           exact ⟨⟨k + 1,K,by omega,by go_num,Ld (by rw [HKK.out,← hK.out];exact (List.append_nil _).symm),hKL,Ld (hOK.out.below HR3.out),HB3⟩,by simp [intOf];omega⟩
        ·clear hbrk
         cases kb with
         | true =>
           go_wp2_with (first
            | (go_at_call 37;go_must (refine (HCN.out _ HBK2.out wr.heap.size (cell_of_row _ _ 0 _ _ _ HG.out)).mono ?_;rintro e w3 ⟨rfl,hb3⟩;have HB3:=Ld (HBK2.out.trans (hb3.mono HBK2.out.size));have HG3:=Ld (row_keep' HG.out hb3);have HR3:=Ld (((Below.refl wr.heap.size wr).alloc (Nat.le_refl _) (.cells #[.slice xA xl.length xc] 28)).trans (hb3.mono (by simp)));have g0:=cell_of_row _ _ 0 _ _ _ HG3.out;clear hb3 f0 f1 q0 q1 q2 a0 a1 a2 a3 a4 a5 a6 a7 a8 r0))
            | (at_builtin;go_must (have HO5:=Ld ((hOK.out.below HR3.out).below ((Below.refl _ _).alloc (Nat.le_refl _) (.cells #[.slice xA xl.length xc] 28)));refine wpList_rows (B:=w2.heap.size) (R:=K) (ys:=[VI.mk xk xb xn xf xt xA xc xl]) rfl (.tmp 91) (.tmp 93) rfl HO5.out rfl rfl (rd_row w3 xA xc xl rfl) rfl (by intro y hy;obtain rfl : y = VI.mk xk xb xn xf xt xA xc xl:=(by simpa using hy);exact (HXW.out.grow HB3.out).grow ((Below.refl _ _).alloc (Nat.le_refl _) _)) (by intro y hy;obtain rfl : y = VI.mk xk xb xn xf xt xA xc xl:=(by simpa using hy);exact HXW.out.blk.mono fun j hj e => by have h2:=(hOK.out.own.lt j e).1;omega) (by have:=HKN.out;have:=HL2.out;omega) (Nat.le_trans hBK.out.size (Nat.le_trans HR3.out.size (by simp))) ?_;intro v2 w4 hO5 hK5 _;have HO6:=Ld hO5;have HK6:=Ld (hK5.belowOwn HO5.out.own (Nat.le_trans hBK.out.size (Nat.le_trans HR3.out.size (by simp))));clear hO5 hK5)))
           exact ⟨⟨k + 1,_,by omega,by go_num,Ld (by rw [HKK.out,← hK.out];rfl),Ld (fun h => by have:=HLQ.out h;rw [List.length_append];simp;omega),HO6,Ld ((HB3.out.alloc HB3.out.size _).trans HK6.out)⟩,by simp [intOf];omega⟩
         | false =>
           go_wp2_with (go_at_call 37;go_must (refine (HCN.out _ HBK2.out wr.heap.size (cell_of_row _ _ 0 _ _ _ HG.out)).mono ?_;rintro e w3 ⟨rfl,hb3⟩;have HB3:=Ld (HBK2.out.trans (hb3.mono HBK2.out.size));have HG3:=Ld (row_keep' HG.out hb3);have HR3:=Ld (((Below.refl wr.heap.size wr).alloc (Nat.le_refl _) (.cells #[.slice xA xl.length xc] 28)).trans (hb3.mono (by simp)));have g0:=cell_of_row _ _ 0 _ _ _ HG3.out;clear hb3 f0 f1 q0 q1 q2 a0 a1 a2 a3 a4 a5 a6 a7 a8 r0))
           exact ⟨⟨k + 1,K,by omega,by go_num,Ld (by rw [HKK.out,← hK.out];exact (List.append_nil _).symm),hKL,Ld (hOK.out.below HR3.out),HB3⟩,by simp [intOf];omega⟩
      ·have HKE:=Ld (show rowsD K = keptD ⟨tn,cols,keys⟩ ⟨qt,fr,tt,wh,qc,qd,ql,qf,qo,AF,cF,AT,cT,AW,cW,AC,cC⟩ (rowsD R2) from kept_end hK.out (.inr ⟨by omega,hKL.out⟩))
       have HPO:=Ld (fun out m (h : ComeOk ⟨tn,cols,keys⟩ ⟨qt,fr,tt,wh,qc,qd,ql,qf,qo,AF,cF,AT,cT,AW,cW,AC,cC⟩ (rowsD K) out m) => HPS2.out 0 m (rowsD R) out (by rw [← HTD.out];exact HTA.out) (by rw [← HTD.out,← HQD.out];simp only;rw [← hr2.out,← HKE.out];exact h))
       go_wp2_with (go_at_call 39;go_must (refine (come_c A c ⟨tn,cols,keys⟩ ⟨qt,fr,tt,wh,qc,qd,ql,qf,qo,AF,cF,AT,cT,AW,cW,AC,cC⟩ AK cK K _ (HR.out.below HWr.out) (HQ.out.below HWr.out) HKR.out HOKQ.out HKC.out HKB.out HCB.out (HWr.out.size) (⟨ownsRow_mono' hOK.out.own HW2.out.size,hOK.out.rd,hOK.out.ne⟩) HKC2.out).mono ?_;rintro e w9 ⟨RO,AO,cO,nO,rfl,hok,hrd,ho9,hbk9,hb9⟩;have HOK9:=Ld hok;have HRD9:=Ld hrd;have HO9:=Ld ho9;have HBK9:=Ld hbk9;have HB9:=Ld hb9;clear hok hrd ho9 hbk9 hb9 f0 f1 q0 q1 q2 a0 a1 a2 a3 a4 a5 a6 a7 a8))
       go_ret2
       exact ⟨RO,AO,cO,nO,rfl,HPO.out _ _ HOK9.out,HRD9.out,HO9.out,HBK9.out,HWr.out.trans (HB9.out.mono HWr.out.size)⟩
 ·have HAL:=Ld (HPE.out h0)
  have z0:=nz h0
  clear h0
  go_enter Tryz.func15,Tryz.ntmps15
  go_wp2_with (go_at_call 10;go_must (rw [HW0.out];refine (Span_query_c pg wd A c ⟨tn,cols,keys⟩ ⟨qt,fr,tt,wh,qc,qd,ql,qf,qo,AF,cF,AT,cT,AW,cW,AC,cC⟩ W0 (HR.out.below HWB.out) (HQ.out.below HWB.out) (cell_keep HC.out (Nat.le_refl _) HWB.out)).mono ?_;rw [HLO.out,HHI.out,HES.out,HLB.out,HHB.out];rintro e w1 ⟨rfl,hb1⟩;have HB1:=Ld hb1;clear hb1))
  go_ret2
  exact ⟨[],none,0,es,rfl,HAL.out,RdR.nil _ _,OwnR.nil _ _,by simp,HWB.out.trans (HB1.out.mono HWB.out.size)⟩
end
section
open Go.RowKit
set_option maxHeartbeats 1000000
set_option maxRecDepth 100000
def awT : TabD:=⟨⟨#[115]⟩,[⟨⟨#[97]⟩,3,false⟩,⟨⟨#[119]⟩,4,true⟩],1⟩
def awQ (cols : List ByteArray) (AC : Option Addr) (cC : Nat) (limit fold : Int) (over : ByteArray) : QryV:=⟨⟨#[115]⟩,[],[],[],cols,false,limit,fold,over,none,0,none,0,none,0,AC,cC⟩
def aw1 : ItemD:=.mk 3 false 2 0 ⟨#[]⟩ []
def aw2 : ItemD:=.mk 4 false 0 4602678819172646912 ⟨#[]⟩ []
def awK : List UInt8:=(keyR 1024 32 awT [aw1]).1
def awV : List UInt8:=(valR 1024 32 awT [aw1,aw2]).1
theorem aw_key : (keyR 1024 32 awT [aw1]).2 = 0:=by kernel_rfl
theorem aw_val : (valR 1024 32 awT [aw1,aw2]).2 = 0:=by kernel_rfl
theorem aw_span1 : (spanR 1024 32 awT (awQ [] none 0 0 4 ⟨#[119]⟩)).2.2 = 0:=by kernel_rfl
theorem aw_rows1 : rowsA 1024 32 awT (spanR 1024 32 awT (awQ [] none 0 0 4 ⟨#[119]⟩)).1 (spanR 1024 32 awT (awQ [] none 0 0 4 ⟨#[119]⟩)).2.1 [] [(⟨awK.toArray⟩,⟨awV.toArray⟩)] = (some [[aw1,aw2]],0):=by kernel_rfl
theorem aw_span2 : (spanR 1024 32 awT (awQ [⟨#[119]⟩] none 0 0 0 ⟨#[]⟩)).2.2 = 0:=by kernel_rfl
theorem aw_rows2 : rowsA 1024 32 awT (spanR 1024 32 awT (awQ [⟨#[119]⟩] none 0 0 0 ⟨#[]⟩)).1 (spanR 1024 32 awT (awQ [⟨#[119]⟩] none 0 0 0 ⟨#[]⟩)).2.1 [] [(⟨awK.toArray⟩,⟨awV.toArray⟩)] = (some [[aw1,aw2]],0):=by kernel_rfl
theorem aw_chk3 : chkQ 1024 32 awT (awQ [] none 0 (-1) 0 ⟨#[]⟩) = 2:=by kernel_rfl
theorem aw_span2' (AC : Option Addr) (cC : Nat) : spanR 1024 32 awT (awQ [⟨#[119]⟩] AC cC 0 0 ⟨#[]⟩) = spanR 1024 32 awT (awQ [⟨#[119]⟩] none 0 0 0 ⟨#[]⟩):=rfl
theorem aw_pick1 {out : List (List ItemD)} {n : Nat} (h : PickOk 1024 32 awT (awQ [] none 0 0 4 ⟨#[119]⟩) [(⟨awK.toArray⟩,⟨awV.toArray⟩)] out n) : n = 0 ∧ out = [[aw2]]:=by
 rw [PickOk,if_neg (by rw [aw_span1];decide),aw_rows1] at h
 simp only at h
 have hk : keptD awT (awQ [] none 0 0 4 ⟨#[119]⟩) (if (awQ [] none 0 0 4 ⟨#[119]⟩).down = true then [[aw1,aw2]].reverse else [[aw1,aw2]]) = [[aw1,aw2]]:=by kernel_rfl
 rw [hk,ComeOk,if_neg (by decide),if_pos (by decide)] at h
 obtain ⟨y,m,h1,h2,h3⟩:=h
 have hi : itemsD (findC awT (awQ [] none 0 0 4 ⟨#[119]⟩).over).toNat [[aw1,aw2]] = [aw2]:=by kernel_rfl
 have hkd : kindAt awT (findC awT (awQ [] none 0 0 4 ⟨#[119]⟩).over) = 4:=by kernel_rfl
 rw [hi,hkd] at h1
 rw [FoldOk,if_neg (by decide),if_neg (by decide),if_neg (by decide),if_pos rfl] at h1
 obtain ⟨rfl,f,rfl,hf⟩:=h1
 have ht : totO [aw2] = some 4602678819172646912:=by kernel_rfl
 rw [ht] at hf
 obtain ⟨rfl,_⟩:=hf
 refine ⟨h2,?_⟩
 rw [h3]
 rfl
theorem aw_pick2 {AC : Option Addr} {cC : Nat} {out : List (List ItemD)} {n : Nat} (h : PickOk 1024 32 awT (awQ [⟨#[119]⟩] AC cC 0 0 ⟨#[]⟩) [(⟨awK.toArray⟩,⟨awV.toArray⟩)] out n) : n = 0 ∧ out = [[aw2]]:=by
 rw [PickOk,aw_span2',if_neg (by rw [aw_span2];decide),aw_rows2] at h
 simp only at h
 have hk : keptD awT (awQ [⟨#[119]⟩] AC cC 0 0 ⟨#[]⟩) (if (awQ [⟨#[119]⟩] AC cC 0 0 ⟨#[]⟩).down = true then [[aw1,aw2]].reverse else [[aw1,aw2]]) = [[aw1,aw2]]:=rfl
 rw [hk,ComeOk,if_neg (by show ¬ (0 : Int) = 1;decide),if_neg (by show ¬ (0 : Int) ≠ 0;decide),if_neg (by show ¬ [(⟨#[119]⟩ : ByteArray)] = [];simp)] at h
 refine ⟨h.1,h.2.trans ?_⟩
 rfl
end
section
open Go.RowKit
set_option maxHeartbeats 1000000
set_option maxRecDepth 100000
theorem table_c (w : World) : Calls Tryz.prog 21 #[] w fun e w' => ∃ b,e = .returned (.agg #[.string ⟨#[115]⟩,.slice (some ⟨b,0,none⟩) 2 2,.int .i64 1]) ∧ RdT w' (some ⟨b,0,none⟩) 2 awT ∧ Below w.heap.size w w':=by
 have HO:=Ld (fun v o => row_keep' (heap_alloc_new w (.cells v 27)) ((Below.refl _ _).alloc (Nat.le_refl _) o))
 have HN:=Ld (fun a b => alloc2_at w a b)
 have HB:=Ld (fun a b => two_below w a b)
 go_enter Tryz.func21,Tryz.ntmps21
 go_wp2
 refine bodyPost_ret (results_c1 rfl _ _ w.heap.size 27 _ (0,0) _ rfl (HO.out _ _) Tryz.underlying27 rfl (by kernel_rfl)) rfl ⟨w.heap.size + 1,rfl,⟨⟨rfl,fun _ => ⟨w.heap.size + 1,0,rfl,fun j u hu => ?_⟩⟩,by decide,by decide,by decide,by decide,?_⟩,HB.out _ _⟩
 ·rw [Nat.zero_add,cell_of_row _ _ j _ _ _ (HN.out _ _)]
  simpa [ccells,awT,ColD.cells] using hu
 ·intro x hx
  simp only [awT,List.mem_cons,List.not_mem_nil,or_false] at hx
  rcases hx with rfl | rfl <;> decide
theorem one_one [Inhabited Thr] {W : World} {RO : List VI} {A : Option Addr} {c : Nat} (hR : RdR W A c RO) (hd : rowsD RO = [[aw2]]) :
 RO.length = 1 ∧ ∃ ab ao xb xo xc,A = some ⟨ab,ao,none⟩ ∧ W.cell? ⟨ab,ao,none⟩ = some (.slice (some ⟨xb,xo,none⟩) 1 xc) ∧ W.cell? ⟨xb,xo,none⟩ = some (.int .u8 4) ∧ W.cell? ⟨xb,xo + 3,none⟩ = some (.float .f64 4602678819172646912):=by
 obtain ⟨x,rfl⟩ : ∃ x,RO = [x]:=by
  rcases RO with _ | ⟨x,_ | ⟨y,l⟩⟩
  ·simp [rowsD] at hd
  ·exact ⟨x,rfl⟩
  ·simp [rowsD] at hd
 refine ⟨rfl,?_⟩
 obtain ⟨ab,ao,rfl,_⟩:=hR.rd.2 (by simp)
 have r0:=row_at hR.rd (k:=0) (by simp)
 have hx:=hR.hx x (by simp)
 have hl : VI.dataL x.l = [aw2]:=by simpa [rowsD] using hd
 rcases x with ⟨_,_,_,_,_,xA,xc,xl⟩
 simp only [VI.l] at hl
 obtain ⟨y,rfl⟩ : ∃ y,xl = [y]:=by
  rcases xl with _ | ⟨y,_ | ⟨z,l⟩⟩
  ·simp [VI.dataL] at hl
  ·exact ⟨y,rfl⟩
  ·simp [VI.dataL] at hl
 have hy : y.data = aw2:=by simpa [VI.dataL] using hl
 have hI:=hx.list
 simp only [VI.A,VI.c,VI.l] at hI r0
 obtain ⟨xb,xo,rfl,_⟩:=hI.rd.2 (by simp)
 obtain ⟨p0,p1,p2,p3,p4,p5⟩:=item_at hI.rd (k:=0) (by simp)
 have h4 : y.k = 4:=by rw [← data_k,hy];rfl
 have hf : y.f = 4602678819172646912:=by rw [← data_f,hy];rfl
 simp only [List.getElem_cons_zero,Nat.zero_mul,Nat.add_zero,VI.A,VI.c,VI.l,List.length_singleton] at p0 p3 r0
 exact ⟨ab,ao,xb,xo,xc,rfl,r0,by rw [← h4];exact p0,by rw [← hf];exact p3⟩
theorem rd_pair (w : World) (k v : ByteArray) (hk : k.size ≤ 140737488355328) (hv : v.size ≤ 140737488355328) {g : Nat} (hg : g = w.heap.size) : RdP (w.alloc (.cells #[.string k,.string v] 56)) (some ⟨g,0,none⟩) 1 [(k,v)]:=by
 subst hg
 refine ⟨⟨rfl,fun _ => ⟨w.heap.size,0,rfl,fun j u hu => ?_⟩⟩,Nat.le_refl _,by show 1 * 32 ≤ 140737488355328;decide,fun p hp => by rw [List.mem_singleton.1 hp];exact ⟨hk,hv⟩⟩
 rw [Nat.zero_add,cell_of_row _ _ j _ _ _ (heap_alloc_new w _)]
 exact (show (#[Value.string k,Value.string v])[j]? = (pcells [(k,v)])[j]? by simp [pcells,pcell]).trans hu
theorem aw_rdq [Inhabited Thr] (W : World) (limit fold : Int) (over : ByteArray) (hl : -9223372036854775808 ≤ limit ∧ limit ≤ 9223372036854775807) (hf : 0 ≤ fold ∧ fold ≤ 255) (ho : over.size ≤ 140737488355328) : RdQ W (awQ [] none 0 limit fold over) :=
 ⟨RdI.nil _ _,RdI.nil _ _,.none_,Nat.le_refl _,by show 0 * 88 ≤ 140737488355328;decide,(by intro x hx;simp [awQ] at hx),.none_,Nat.le_refl _,by show 0 * 16 ≤ 140737488355328;decide,(by intro x hx;simp [awQ] at hx),by show (1 : Nat) ≤ 140737488355328;decide,ho,hl,hf⟩
theorem aw_rdq2 [Inhabited Thr] (w : World) (g : Nat) (hg : g = w.heap.size) {W : World} (hb : Below (w.alloc (.cells #[.string ⟨#[119]⟩] 9)).heap.size (w.alloc (.cells #[.string ⟨#[119]⟩] 9)) W) : RdQ W (awQ [⟨#[119]⟩] (some ⟨g,0,none⟩) 1 0 0 ⟨#[]⟩):=by
 subst hg
 have hh : RdQ (w.alloc (.cells #[.string ⟨#[119]⟩] 9)) (awQ [⟨#[119]⟩] (some ⟨w.heap.size,0,none⟩) 1 0 0 ⟨#[]⟩):=by
  refine ⟨RdI.nil _ _,RdI.nil _ _,.none_,Nat.le_refl _,by show 0 * 88 ≤ 140737488355328;decide,(by intro x hx;simp [awQ] at hx),⟨rfl,fun _ => ⟨w.heap.size,0,rfl,fun j u hu => ?_⟩⟩,Nat.le_refl _,by show 1 * 16 ≤ 140737488355328;decide,(by intro x hx;simp only [awQ,List.mem_singleton] at hx;subst hx;decide),by show (1 : Nat) ≤ 140737488355328;decide,by show (0 : Nat) ≤ 140737488355328;decide,by show -9223372036854775808 ≤ (0 : Int) ∧ (0 : Int) ≤ 9223372036854775807;decide,by show (0 : Int) ≤ 0 ∧ (0 : Int) ≤ 255;decide⟩
  rw [Nat.zero_add,cell_of_row _ _ j _ _ _ (heap_alloc_new w _)]
  exact (show (#[Value.string ⟨#[119]⟩])[j]? = ([(⟨#[119]⟩ : ByteArray)].map Value.string)[j]? by simp).trans hu
 exact hh.below hb
end
section
open Go.RowKit
set_option maxHeartbeats 1000000
set_option maxRecDepth 100000
theorem aw_k1 : (keyR 1024 32 awT (VI.dataL [intV 2])).1 = awK:=rfl
theorem aw_k2 : (keyR 1024 32 awT (VI.dataL [intV 2])).2 = 0:=aw_key
theorem aw_v1 : (valR 1024 32 awT (VI.dataL [intV 2,floatV 4602678819172646912])).1 = awV:=rfl
theorem aw_v2 : (valR 1024 32 awT (VI.dataL [intV 2,floatV 4602678819172646912])).2 = 0:=aw_val
theorem aw_sz : (⟨awK.toArray⟩ : ByteArray).size ≤ 140737488355328 ∧ (⟨awV.toArray⟩ : ByteArray).size ≤ 140737488355328:=by
 have h1 : awK.length = 6:=by kernel_rfl
 have h2 : awV.length = 9:=by kernel_rfl
 constructor
 ·show awK.toArray.size ≤ _
  rw [List.size_toArray,h1];decide
 ·show awV.toArray.size ≤ _
  rw [List.size_toArray,h2];decide
theorem row1_rd [Inhabited Thr] (w : World) {g : Nat} (hg : g = w.heap.size) : RdI (w.alloc (.cells (c6 3 false 2 0 ⟨#[]⟩ none 0 0) 54)) (some ⟨g,0,none⟩) 1 [intV 2] :=
 ⟨rd_items w _ [intV 2] rfl hg rfl,Nat.le_refl _,by show 1 * 64 ≤ 140737488355328;decide,fun y hy => by rw [List.mem_singleton.1 hy];exact RdV.leaf _ (by decide) (by decide) (by decide)⟩
theorem row2_rd [Inhabited Thr] (w : World) {g : Nat} (hg : g = w.heap.size) : RdI (w.alloc (.cells (c6 3 false 2 0 ⟨#[]⟩ none 0 0 ++ c6 4 false 0 4602678819172646912 ⟨#[]⟩ none 0 0) 54)) (some ⟨g,0,none⟩) 2 [intV 2,floatV 4602678819172646912] :=
 ⟨rd_items w _ [intV 2,floatV 4602678819172646912] rfl hg rfl,Nat.le_refl _,by show 2 * 64 ≤ 140737488355328;decide,fun y hy => by
   rcases List.mem_cons.1 hy with rfl | hy
   ·exact RdV.leaf _ (by decide) (by decide) (by decide)
   ·rw [List.mem_singleton.1 hy];exact RdV.leaf _ (by decide) (by decide) (by decide)⟩
structure AwAt (w : World) (g tb : Nat) (W : World) : Prop where
 f : W.heap[w.heap.size]? = some (.cells #[.int .i64 1024,.int .i64 32] 24 (0,0))
 t : W.heap[g]? = some (.cells #[.string ⟨#[115]⟩,.slice (some ⟨tb,0,none⟩) 2 2,.int .i64 1] 27 (0,0))
 r : RdT W (some ⟨tb,0,none⟩) 2 awT
 c : ∃ m,W.cell? ⟨1,0,none⟩ = some (.int .i64 m)
 b : Below w.heap.size w W
theorem AwAt.next {w W W' : World} {g tb : Nat} (h : AwAt w g tb W) (hb : Below W.heap.size W W') : AwAt w g tb W' :=
 ⟨row_keep' h.f hb,row_keep' h.t hb,h.r.below hb,cell_keep h.c (Nat.le_refl _) hb,h.b.trans (hb.mono h.b.size)⟩
theorem AwAt.cells {w W : World} {g tb : Nat} (h : AwAt w g tb W) : (W.cell? ⟨w.heap.size,0,none⟩ = some (.int .i64 1024) ∧ W.cell? ⟨w.heap.size,1,none⟩ = some (.int .i64 32)) ∧ (W.cell? ⟨g,0,none⟩ = some (.string ⟨#[115]⟩) ∧ W.cell? ⟨g,1,none⟩ = some (.slice (some ⟨tb,0,none⟩) 2 2) ∧ W.cell? ⟨g,2,none⟩ = some (.int .i64 1)) ∧ w.heap.size < W.heap.size ∧ g < W.heap.size :=
 ⟨⟨cell_of_row _ _ 0 _ _ _ h.f,cell_of_row _ _ 1 _ _ _ h.f⟩,⟨cell_of_row _ _ 0 _ _ _ h.t,cell_of_row _ _ 1 _ _ _ h.t,cell_of_row _ _ 2 _ _ _ h.t⟩,(Array.getElem?_eq_some_iff.1 h.f).1,(Array.getElem?_eq_some_iff.1 h.t).1⟩
theorem AwAt.start {w w1 : World} {tb : Nat} (hc : ∃ m,w.cell? ⟨1,0,none⟩ = some (.int .i64 m)) (ht : RdT w1 (some ⟨tb,0,none⟩) 2 awT) (hb : Below (w.alloc (.cells #[.int .i64 1024,.int .i64 32] 24)).heap.size (w.alloc (.cells #[.int .i64 1024,.int .i64 32] 24)) w1) :
 AwAt w w1.heap.size tb (w1.alloc (.cells #[.string ⟨#[115]⟩,.slice (some ⟨tb,0,none⟩) 2 2,.int .i64 1] 27)):=by
 have hw : Below w.heap.size w w1:=((Below.refl _ _).alloc (Nat.le_refl _) _).trans (hb.mono (by simp))
 have ha:=(Below.refl w1.heap.size w1).alloc (Nat.le_refl _) (.cells #[.string ⟨#[115]⟩,.slice (some ⟨tb,0,none⟩) 2 2,.int .i64 1] 27)
 exact ⟨row_keep' (row_keep' (heap_alloc_new w _) hb) ha,heap_alloc_new w1 _,ht.below ha,cell_keep (cell_keep hc (Nat.le_refl _) hw) (Nat.le_refl _) ha,hw.trans (ha.mono hw.size)⟩
theorem awake_c (w : World) (hc : ∃ m,w.cell? ⟨1,0,none⟩ = some (.int .i64 m)) : Calls Tryz.prog 8 #[] w fun e w' => e = .returned (.bool true) ∧ Below w.heap.size w w':=by
 haveI : Inhabited Thr:=⟨⟨0⟩⟩
 have HC:=Ld hc
 obtain ⟨KB,hKB⟩ : ∃ x : ByteArray,(⟨awK.toArray⟩ : ByteArray) = x:=⟨_,rfl⟩
 obtain ⟨VB,hVB⟩ : ∃ x : ByteArray,(⟨awV.toArray⟩ : ByteArray) = x:=⟨_,rfl⟩
 have HKB:=Ld hKB
 have HVB:=Ld hVB
 have HSZ:=Ld (show KB.size ≤ 140737488355328 ∧ VB.size ≤ 140737488355328 by rw [← hKB,← hVB];exact aw_sz)
 clear hc hKB hVB
 go_enter Tryz.func8,Tryz.ntmps8
 go_upto_region 3 with (go_at_call 21;go_must (refine (table_c _).mono ?_;rintro e w1 ⟨tb,rfl,ht,hb⟩;have HT:=Ld (AwAt.start HC.out ht hb);clear ht hb))
 obtain ⟨W2,hW2⟩ : ∃ W,w1.alloc (.cells #[.string ⟨#[115]⟩,.slice (some ⟨tb,0,none⟩) 2 2,.int .i64 1] 27) = W:=⟨_,rfl⟩
 have HW2:=Ld hW2
 obtain ⟨g,hg⟩ : ∃ g,w1.heap.size = g:=⟨_,rfl⟩
 have HGE:=Ld hg
 rw [HW2.out,HGE.out]
 rw [HW2.out,HGE.out] at HT
 clear hW2 hg
 obtain ⟨⟨f0,f1⟩,⟨t0,t1,t2⟩,b0,b1⟩:=HT.out.cells
 go_upto_region 4 with (go_at_call 22;go_must (refine (KeyOf_c 1024 32 (some ⟨tb,0,none⟩) 2 awT (some ⟨W2.heap.size,0,none⟩) 1 [intV 2] _ (HT.out.next ((Below.refl _ _).alloc (Nat.le_refl _) _)).r (row1_rd W2 rfl) (HT.out.next ((Below.refl _ _).alloc (Nat.le_refl _) _)).c).mono ?_;rw [aw_k1,aw_k2,HKB.out];rintro e w3 ⟨rfl,hb⟩;have HT3:=Ld (HT.out.next (((Below.refl _ _).alloc (Nat.le_refl _) _).trans (hb.mono (by simp))));clear hb f0 f1 t0 t1 t2 b0 b1))
 obtain ⟨⟨f0,f1⟩,⟨t0,t1,t2⟩,b0,b1⟩:=HT3.out.cells
 go_upto_region 5 with (go_at_call 23;go_must (refine (ValOf_c 1024 32 (some ⟨tb,0,none⟩) 2 awT (some ⟨w3.heap.size,0,none⟩) 2 [intV 2,floatV 4602678819172646912] _ (HT3.out.next ((Below.refl _ _).alloc (Nat.le_refl _) _)).r (row2_rd w3 rfl) (HT3.out.next ((Below.refl _ _).alloc (Nat.le_refl _) _)).c).mono ?_;rw [aw_v1,aw_v2,HVB.out];rintro e w4 ⟨rfl,hb⟩;have HT4:=Ld (HT3.out.next (((Below.refl _ _).alloc (Nat.le_refl _) _).trans (hb.mono (by simp))));clear hb f0 f1 t0 t1 t2 b0 b1))
 obtain ⟨⟨f0,f1⟩,⟨t0,t1,t2⟩,b0,b1⟩:=HT4.out.cells
 have HP4:=Ld (rd_pair w4 KB VB HSZ.out.1 HSZ.out.2 rfl)
 go_upto_region 6 with (go_at_call 15;go_must (refine (Pick_c 1024 32 (some ⟨tb,0,none⟩) 2 awT (awQ [] none 0 0 4 ⟨#[119]⟩) (some ⟨w4.heap.size,0,none⟩) 1 [(KB,VB)] _ (HT4.out.next ((Below.refl _ _).alloc (Nat.le_refl _) _)).r (aw_rdq _ 0 4 _ (by decide) (by decide) (by decide)) HP4.out (HT4.out.next ((Below.refl _ _).alloc (Nat.le_refl _) _)).c (fun _ => by show 1 * 64 ≤ 140737488355328;decide) (by show 0 * 64 ≤ 140737488355328;decide)).mono ?_;rintro e w5 ⟨RO,A5,c5,n5,rfl,hok,hrd,_,_,hb⟩;rw [← HKB.out,← HVB.out] at hok;obtain ⟨hn5,hd5⟩:=aw_pick1 hok;subst hn5;have HD5:=Ld (one_one hrd hd5);have HT5:=Ld (HT4.out.next (((Below.refl _ _).alloc (Nat.le_refl _) _).trans (hb.mono (by simp))));clear hb hok hrd hd5 f0 f1 t0 t1 t2 b0 b1))
 rw [HD5.out.1]
 obtain ⟨⟨f0,f1⟩,⟨t0,t1,t2⟩,b0,b1⟩:=HT5.out.cells
 have HP5:=Ld (rd_pair (w5.alloc (.cells #[.string ⟨#[119]⟩] 9)) KB VB HSZ.out.1 HSZ.out.2 (g:=w5.heap.size + 1) (by simp))
 have HQ5:=Ld (aw_rdq2 w5 w5.heap.size rfl ((Below.refl _ (w5.alloc (.cells #[.string ⟨#[119]⟩] 9))).alloc (Nat.le_refl _) (.cells #[.string KB,.string VB] 56)))
 have HN5:=Ld (HT5.out.next (two_below w5 (.cells #[.string ⟨#[119]⟩] 9) (.cells #[.string KB,.string VB] 56)))
 go_upto_region 7 with (go_at_call 15;go_must (refine (Pick_c 1024 32 (some ⟨tb,0,none⟩) 2 awT (awQ [⟨#[119]⟩] (some ⟨w5.heap.size,0,none⟩) 1 0 0 ⟨#[]⟩) (some ⟨w5.heap.size + 1,0,none⟩) 1 [(KB,VB)] _ HN5.out.r HQ5.out HP5.out HN5.out.c (fun _ => by show 1 * 64 ≤ 140737488355328;decide) (by show 1 * 64 ≤ 140737488355328;decide)).mono ?_;rintro e w6 ⟨RP,A6,c6,n6,rfl,hok,hrd,_,_,hb⟩;rw [← HKB.out,← HVB.out] at hok;obtain ⟨hn6,hd6⟩:=aw_pick2 hok;subst hn6;have HD6:=Ld (one_one hrd hd6);have HT6:=Ld (HN5.out.next hb);have HCE:=Ld (fun p v (h : w5.cell? p = some v) => show w6.cell? p = some v from ((two_below w5 (.cells #[.string ⟨#[119]⟩] 9) (.cells #[.string KB,.string VB] 56)).trans (hb.mono (by simp;omega))).cell (p:=p) (World.block_lt_of_cell? w5 _ h) |>.trans h);clear hb hok hrd hd6 f0 f1 t0 t1 t2 b0 b1))
 rw [HD6.out.1]
 obtain ⟨⟨f0,f1⟩,⟨t0,t1,t2⟩,b0,b1⟩:=HT6.out.cells
 obtain ⟨_,ab,ao,xb,xo,xc,rfl,l0,l1,l2⟩:=HD5.out
 obtain ⟨_,mb,mo,yb,yo,yc,rfl,m0,m1,m2⟩:=HD6.out
 have k0:=HCE.out _ _ l0
 have k1:=HCE.out _ _ l2
 clear l0 l1 l2 m2 HCE
 have ho : FloatKind.f64.format.order 4602678819172646912 4602678819172646912 = some .eq:=by kernel_rfl
 go_wp2_with (go_at_call 12;go_must (refine (Check_query_c 1024 32 (some ⟨tb,0,none⟩) 2 awT (awQ [] none 0 (-1) 0 ⟨#[]⟩) _ HT6.out.r (aw_rdq _ (-1) 0 _ (by decide) (by decide) (by decide)) HT6.out.c).mono ?_;rw [aw_chk3];rintro e w7 ⟨rfl,hb⟩;have HT7:=Ld (HT6.out.next hb);clear hb f0 f1 t0 t1 t2 b0 b1 k0 k1 m0 m1))
 go_ret
 exact ⟨rfl,HT7.out.b⟩
end
end Go.Proofs.YtonjgedhmmnolaaGreatDoor
