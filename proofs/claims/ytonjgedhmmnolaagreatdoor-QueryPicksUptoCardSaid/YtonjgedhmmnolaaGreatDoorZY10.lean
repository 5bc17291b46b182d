import Derived.Test.YtonjgedhmmnolaaGreatDoorZY9
import Derived.Test.YtonjgedhmmnolaaGreatDoorZZ3
import Derived.Test.YtonjgedhmmnolaaGreatDoorZ22
namespace Go.Proofs.YtonjgedhmmnolaaGreatDoor
section
open Go.RowKit
set_option maxHeartbeats 2000000
set_option maxRecDepth 100000
mutual
theorem walkI_cnt : ∀ (x : ItemD) (d m : Nat),(walkI x d m).2 = 0 → m + 1 ≤ (walkI x d m).1 ∧ (walkI x d m).1 ≤ 64
 | .mk k b n f t l,d,m,h => by
   obtain ⟨h64,_,_,hw⟩:=walk_parts (show walkI (.mk k b n f t l) d m = ((walkI (.mk k b n f t l) d m).1,0) from Prod.ext rfl h)
   have:=walkL_cnt l (d + 1) (m + 1) (by rw [hw]) (by omega)
   rw [hw] at this
   simp only at this
   omega
theorem walkL_cnt : ∀ (l : List ItemD) (d m : Nat),(walkL l d m).2 = 0 → m ≤ 64 → m + l.length ≤ (walkL l d m).1 ∧ (walkL l d m).1 ≤ 64
 | [],d,m,_,h => by rw [walkL_nil];exact ⟨Nat.le_refl _,h⟩
 | x :: l,d,m,h,hm => by
   rw [walkL_cons] at h ⊢
   by_cases h0 : (walkI x d m).2 = 0
   ·rw [if_pos h0] at h ⊢
    have h1:=walkI_cnt x d m h0
    have h2:=walkL_cnt l d (walkI x d m).1 h h1.2
    simp only [List.length_cons]
    omega
   ·rw [if_neg h0] at h;exact absurd h h0
end
mutual
theorem rng_of [Inhabited Thr] : ∀ (x : VI) (w : World),RdV w x → rngI x.data
 | .mk k b n f t A c l,w,h => by
   rw [VI.data,rngI]
   exact ⟨h.hn,h.hf,rngL_of l w (fun y hy => h.list.hx y hy)⟩
theorem rngL_of [Inhabited Thr] : ∀ (l : List VI) (w : World),(∀ y ∈ l,RdV w y) → rngL (VI.dataL l)
 | [],_,_ => by rw [VI.dataL,rngL];trivial
 | x :: l,w,h => by
   rw [VI.dataL,rngL]
   exact ⟨rng_of x w (h x (List.mem_cons_self ..)),rngL_of l w (fun y hy => h y (List.mem_cons_of_mem _ hy))⟩
end
theorem refUnp_l [Inhabited Thr] (bs : List UInt8) (w : World) : Calls Tryz.prog 111 #[.string ⟨bs.toArray⟩] w (UnpEnd bs w):=by
 have hsz0:=size_mk bs
 by_cases hbig : 4096 < bs.length
 ·have HU:=Ld (show unpB bs = none by rw [unpB,if_pos hbig])
  have HE:=Ld (show unpErr bs = 4 by rw [unpErr,if_pos hbig])
  go_enter Tryz.func111,Tryz.ntmps111
  go_wp2
  go_ret2
  refine ⟨Below.refl _ _,?_⟩
  rw [HU.out]
  exact ret_eq (by rw [HE.out];rfl)
 ·have HUR:=Ld (unp_ref (bs:=bs) (by omega))
  have HUE:=Ld (fun (h : unpB bs = none) => show unpErr bs = 33 by rw [unpErr,if_neg hbig,h];rfl)
  obtain ⟨R,hR⟩ : ∃ R,redTop (bs.length + 1) bs = R:=⟨_,rfl⟩
  have HR:=Ld hR
  rw [hR] at HUR
  have HRC:=Ld (fun l w => read_c 9 l 0 w rfl)
  have hle : bs.length ≤ 4096:=by omega
  clear hR hbig
  go_enter Tryz.func111,Tryz.ntmps111
  go_wp2
  go_loopw [5,4] (fun s v wr => ∃ (t : List UInt8) (n : Nat) (L : List VI),s = .string ⟨t.toArray⟩ ∧ t.length ≤ 4096 ∧ L.length + t.length ≤ 4096 ∧ Hid (t.length < n) ∧ Hid (R = (redTop n t).map fun p => VI.dataL L ++ p) ∧ Hid (OwnI wr w.heap.size v L) ∧ Hid (∀ y ∈ L,BlkV (fun k => w.heap.size ≤ k) y) ∧ Hid (Below w.heap.size w wr)) (fun s _ _ => lenS s)
  case atStart => exact ⟨bs,bs.length + 1,[],rfl,hle,by simpa using hle,Ld (by omega),Ld (by rw [HR.out,VI.dataL];simp),Ld (OwnI.nil _ _),Ld (by simp),Ld (Below.refl _ _)⟩
  case round =>
   obtain ⟨t,n,L,rfl,ht,hLt,hn,hr,hO,hbl,hB⟩:=hrel
   obtain ⟨n,rfl⟩ : ∃ m,n = m + 1:=⟨n - 1,by have:=hn.out;omega⟩
   have HSZ:=Ld hB.out.size
   cases t with
   | nil =>
     have HRL:=Ld (show R = some (VI.dataL L) by rw [hr.out,redTop];simp)
     have hem : ((⟨([] : List UInt8).toArray⟩ : ByteArray).toList == []) = true:=by rw [ByteArray.toList_eq];rfl
     have hL4 : L.length ≤ 4096:=by omega
     obtain ⟨A,cA,rfl,hRI⟩:=hO.out.rdi (by omega)
     have HRI:=Ld hRI
     have HUB:=Ld (HUR.out.2 _ HRL.out (rngL_of L _ hRI.hx))
     clear hRI
     by_cases hc0 : chkL (VI.dataL L) = 0
     ·have HPE:=Ld (show packE (VI.dataL L) = .tuple #[.string ⟨(packL (VI.dataL L)).toArray⟩,.int .i64 0] by rw [packE,if_pos hc0])
      have HCN:=Ld (show L.length ≤ 64 by have:=walkL_cnt (VI.dataL L) 0 0 (chkL_ok hc0).2.2 (by decide);rw [dataL_eq,List.length_map] at this;omega)
      obtain ⟨P,hP⟩ : ∃ P,packL (VI.dataL L) = P:=⟨_,rfl⟩
      rw [hP] at HUB HPE
      by_cases he : P = bs
      ·have e1 : ((⟨P.toArray⟩ : ByteArray).toList == (⟨bs.toArray⟩ : ByteArray).toList) = true:=by rw [he];simp
       have e2 : (P == bs) = true:=by rw [he];simp
       rw [if_pos ⟨hc0,he⟩] at HUB
       clear hc0 hP he
       go_wp2_with (go_at_call 87;go_must (refine (refPack_c A cA L _ HRI.out).mono ?_;rintro e w1 ⟨rfl,hb⟩;rw [HPE.out];have HB1:=Ld hb;clear hb))
       go_ret2
       refine ⟨hB.out.trans (HB1.out.mono HSZ.out),?_⟩
       rw [HUB.out]
       exact ⟨L,A,cA,rfl,rfl,HCN.out,hO.out.below HB1.out,HRI.out.below HB1.out,hbl.out⟩
      ·have e1 : ((⟨P.toArray⟩ : ByteArray).toList == (⟨bs.toArray⟩ : ByteArray).toList) = false:=by
         rw [beq_eq_false_iff_ne,ByteArray.toList_eq,ByteArray.toList_eq];intro h;exact he (by simpa using h)
       have e2 : (P == bs) = false:=beq_eq_false_iff_ne.2 he
       rw [if_neg (fun h => he h.2)] at HUB
       clear hc0 hP he
       go_wp2_with (go_at_call 87;go_must (refine (refPack_c A cA L _ HRI.out).mono ?_;rintro e w1 ⟨rfl,hb⟩;rw [HPE.out];have HB1:=Ld hb;clear hb))
       go_ret2
       refine ⟨hB.out.trans (HB1.out.mono HSZ.out),?_⟩
       rw [HUB.out]
       exact ret_eq (by rw [HUE.out HUB.out];rfl)
     ·have HPE:=Ld (show packE (VI.dataL L) = .tuple #[.string ⟨#[]⟩,.int .i64 (chkL (VI.dataL L))] by rw [packE,if_neg hc0])
      obtain ⟨ch,hch⟩ : ∃ n,chkL (VI.dataL L) = n:=⟨_,rfl⟩
      rw [if_neg (fun h => hc0 h.1)] at HUB
      rw [hch] at HPE
      have e1 : ((ch : Int) != 0) = true:=by rw [hch] at hc0;simp [hc0]
      clear hc0 hch
      go_wp2_with (go_at_call 87;go_must (refine (refPack_c A cA L _ HRI.out).mono ?_;rintro e w1 ⟨rfl,hb⟩;rw [HPE.out];have HB1:=Ld hb;clear hb))
      go_ret2
      refine ⟨hB.out.trans (HB1.out.mono HSZ.out),?_⟩
      rw [HUB.out]
      exact ret_eq (by rw [HUE.out HUB.out];rfl)
   | cons c t =>
     have hem : ((⟨(c :: t).toArray⟩ : ByteArray).toList == []) = false:=by rw [ByteArray.toList_eq];rfl
     have HM:=Ld (show R = (match redI 9 (c :: t) with | none => none | some p => (redTop n p.2).map (p.1 :: ·)).map fun p => VI.dataL L ++ p by rw [hr.out,redTop];rfl)
     have HLEN:=Ld (redI_len 9 (c :: t))
     have HCC:=Ld (fun w => HRC.out (c :: t) w (by simpa using ht))
     cases hq : redI 9 (c :: t) with
     | none =>
       rw [hq] at HM
       have HUB:=Ld (HUR.out.1 (by rw [HM.out];rfl))
       simp only [hq] at HCC
       clear hq HM
       go_wp2_with (go_at_call 132;go_must (refine (HCC.out _).mono ?_;rintro e w1 ⟨hb,rfl⟩;simp only [VI.val,VI.k,VI.b,VI.n,VI.f,VI.t,VI.A,VI.c,VI.l,List.length_nil];have hb2:=hb.alloc hb.size (.cells (c6 0 false 0 0 ⟨#[]⟩ none 0 0) 54);have HB2:=Ld (hB.out.trans (hb2.mono HSZ.out));clear hb hb2))
       go_ret2
       refine ⟨HB2.out,?_⟩
       rw [HUB.out]
       exact ret_eq (by rw [HUE.out HUB.out];rfl)
     | some p =>
       rw [hq] at HM
       have HPL:=Ld (HLEN.out p hq)
       simp only [hq] at HCC
       obtain ⟨pi,pr⟩:=p
       simp only at HM HPL HCC
       clear hq
       go_wp2_with (first
        | (go_at_call 132;go_must (refine (HCC.out _).mono ?_;rintro e w1 ⟨hb,x,rfl,hx,hrx,hbx⟩;have HX:=Ld hx;have HRX:=Ld hrx;have HBV:=Ld hbx;have HBW:=Ld hb;rcases x with ⟨xk,xb,xn,xf,xt,xA,xc,xl⟩;simp only [VI.val,VI.k,VI.b,VI.n,VI.f,VI.t,VI.A,VI.c,VI.l];clear hx hrx hbx hb))
        | (at_builtin;have hba:=(Below.refl w1.heap.size w1).alloc (Nat.le_refl _) (.cells (c6 xk xb xn xf xt xA xl.length xc) 54);have hbb:=hba.trans (((Below.refl _ _).alloc (Nat.le_refl _) (.cells (c6 xk xb xn xf xt xA xl.length xc) 54)).mono hba.size);refine wpList_items (B:=w.heap.size) (l:=L) (ys:=[VI.mk xk xb xn xf xt xA xc xl]) rfl (.tmp 25) (.tmp 27) rfl (hO.out.below (HBW.out.trans (hbb.mono HBW.out.size))) rfl rfl (rd_items (w1.alloc (.cells (c6 xk xb xn xf xt xA xl.length xc) 54)) _ [VI.mk xk xb xn xf xt xA xc xl] rfl (by simp) rfl) rfl (one_all (HRX.out.grow hbb)) (one_all (HBV.out.mono fun k hk e => by have:=(hO.out.own.lt k e).2;omega)) (by simp only [List.length_cons] at hLt ⊢;omega) (Nat.le_trans HSZ.out (Nat.le_trans HBW.out.size hbb.size)) ?_;intro v2 w2 hO2 hK2 _;have HB2:=Ld ((hB.out.trans ((HBW.out.trans (hbb.mono HBW.out.size)).mono HSZ.out)).trans (hK2.below (Nat.le_trans HSZ.out (Nat.le_trans HBW.out.size hbb.size)) (fun j hj e => by have:=(hO.out.own.lt j e).1;omega)));have HO2:=Ld hO2;clear hO2 hK2 hba hbb))
       refine ⟨⟨pr,n,L ++ [VI.mk xk xb xn xf xt xA xc xl],rfl,?_,?_,Ld ?_,Ld ?_,HO2,Ld ?_,HB2⟩,?_⟩
       ·have:=HPL.out;simp only [List.length_cons] at ht this;omega
       ·have:=HPL.out;simp only [List.length_cons,List.length_append,List.length_nil] at hLt this ⊢;omega
       ·have:=HPL.out;have:=hn.out;simp only [List.length_cons] at *;omega
       ·rw [HM.out,dataL_eq,dataL_eq,List.map_append,List.map_cons,List.map_nil,HX.out]
        cases redTop n pr <;> simp
       ·intro y hy
        rcases List.mem_append.1 hy with hy | hy
        ·exact hbl.out y hy
        ·obtain rfl : y = VI.mk xk xb xn xf xt xA xc xl:=by simpa using hy
         exact HBV.out.mono fun k hk => by have:=HSZ.out;omega
       ·have:=HPL.out
        simp only [lenS,size_mk,List.length_cons] at this ⊢
        omega
theorem refUnpack_c [Inhabited Thr] (s : ByteArray) (w : World) : Calls Tryz.prog 111 #[.string s] w (UnpEnd s.data.toList w):=by
 have:=refUnp_l s.data.toList w
 rwa [bytes_eta] at this
end
end Go.Proofs.YtonjgedhmmnolaaGreatDoor
