import Derived.Test.YtonjgedhmmnolaaGreatDoorZY4
namespace Go.Proofs.YtonjgedhmmnolaaGreatDoor
section
open Go.RowKit
set_option maxHeartbeats 2000000
set_option maxRecDepth 100000
def redW (n : Int) (bs : List UInt8) : Option (ItemD × List UInt8):=if bs.length < n.natAbs then none else some (.mk 3 false (valW n (numB (bs.take n.natAbs))) 0 ⟨#[]⟩ [],bs.drop n.natAbs)
def fltU (u : Nat) : Nat:=if 9223372036854775808 ≤ u then u - 9223372036854775808 else 18446744073709551615 - u
def redM (f : List UInt8 → Option (ItemD × List UInt8)) : Nat → List UInt8 → Option (List ItemD × List UInt8)
 | 0,_ => none
 | _ + 1,[] => none
 | n + 1,c :: s => if c = 0 then some ([],s) else match f (c :: s) with
   | none => none
   | some p => (redM f n p.2).map fun q => (p.1 :: q.1,q.2)
def lstI (o : Option (List ItemD × List UInt8)) : Option (ItemD × List UInt8):=o.map fun p => (.mk 6 false 0 0 ⟨#[]⟩ p.1,p.2)
def redI : Nat → List UInt8 → Option (ItemD × List UInt8)
 | 0,_ => none
 | _ + 1,[] => none
 | r + 1,t :: s =>
   if t = 1 then some (.mk 1 false 0 0 ⟨#[]⟩ [],s) else if t = 2 then some (.mk 2 false 0 0 ⟨#[]⟩ [],s) else if t = 3 then some (.mk 2 true 0 0 ⟨#[]⟩ [],s)
   else if 12 ≤ t.toNat ∧ t.toNat ≤ 28 then redW ((t.toNat : Int) - 20) s
   else if t = 32 ∧ 8 ≤ s.length then some (.mk 4 false 0 (fltU (numB (s.take 8))) ⟨#[]⟩ [],s.drop 8)
   else if t = 36 then texI s else if t = 40 then lstI (redM (redI r) (s.length + 1) s) else none
theorem texR_len : ∀ (l : List UInt8) (p),texR l = some p → p.2.length < l.length
 | [],_,h => by rw [texR] at h;cases h
 | [_],_,h => by rw [texR] at h;cases h
 | c :: d :: r,p,h => by
   rw [texR] at h
   split at h
   ·obtain ⟨q,hq,rfl⟩:=Option.map_eq_some_iff.1 h
    have:=texR_len (d :: r) q hq
    simp only [List.length_cons] at this ⊢;omega
   ·split at h
    ·cases h;simp only [List.length_cons];omega
    ·obtain ⟨q,hq,rfl⟩:=Option.map_eq_some_iff.1 h
     have:=texR_len r q hq
     simp only [List.length_cons] at this ⊢;omega
theorem redM_len {f : List UInt8 → Option (ItemD × List UInt8)} (hf : ∀ l p,f l = some p → p.2.length < l.length) : ∀ (n : Nat) (l : List UInt8) (p),redM f n l = some p → p.2.length < l.length
 | 0,_,_,h => by rw [redM] at h;cases h
 | _ + 1,[],_,h => by rw [redM] at h;cases h
 | n + 1,c :: s,p,h => by
   rw [redM] at h
   split at h
   ·cases h;simp
   ·cases hp : f (c :: s) with
    | none => rw [hp] at h;cases h
    | some q =>
      rw [hp] at h
      obtain ⟨u,hu,rfl⟩:=Option.map_eq_some_iff.1 h
      have h1:=redM_len hf n q.2 u hu
      have h2:=hf _ _ hp
      show u.2.length < _
      omega
theorem redI_len : ∀ (r : Nat) (l : List UInt8) (p),redI r l = some p → p.2.length < l.length
 | 0,_,_,h => by rw [redI] at h;cases h
 | _ + 1,[],_,h => by rw [redI] at h;cases h
 | r + 1,t :: s,p,h => by
   rw [redI] at h
   repeat' split at h
   ·cases h;simp
   ·cases h;simp
   ·cases h;simp
   ·unfold redW at h
    split at h
    ·cases h
    ·cases h;simp only [List.length_cons,List.length_drop];omega
   ·cases h;simp only [List.length_cons,List.length_drop];omega
   ·obtain ⟨q,hq,rfl⟩:=Option.map_eq_some_iff.1 h
    have:=texR_len s q hq
    simp only [List.length_cons];omega
   ·obtain ⟨q,hq,rfl⟩:=Option.map_eq_some_iff.1 h
    have:=redM_len (redI_len r) _ s q hq
    simp only [List.length_cons];omega
   ·cases h
def ReadIH [Inhabited Thr] (r : Nat) : Prop:=∀ (l : List UInt8) (d : Nat) (w : World),d + r = 9 → l.length ≤ 4096 → Calls Tryz.prog 132 #[.string ⟨l.toArray⟩,.int .i64 d] w (ReadEnd (redI r l) w)
theorem idx0 (t : UInt8) (l : List UInt8) : ∀ h : 0 < (⟨(t :: l).toArray⟩ : ByteArray).size,(⟨(t :: l).toArray⟩ : ByteArray)[0]'h = t:=fun _ => rfl
theorem size_mk (l : List UInt8) : (⟨l.toArray⟩ : ByteArray).size = l.length:=by simp [ByteArray.size]
theorem strS_from (l : List UInt8) (k : Nat) (h : k ≤ l.length) (kl : IntKind) (w : World) : (Instr.slice 9 (.string ⟨l.toArray⟩) (some (.int kl k)) none none).run Tryz.prog w = .ok (.string ⟨(l.drop k).toArray⟩) w:=by
 rw [run_slice_string_l (P:=Tryz.prog) w 9 ⟨l.toArray⟩ Tryz.underlying9 kl k (by omega) (by rw [size_mk];omega),Int.toNat_natCast,bytes_drop]
theorem strS_to (l : List UInt8) (k : Nat) (h : k ≤ l.length) (kl : IntKind) (w : World) : (Instr.slice 9 (.string ⟨l.toArray⟩) none (some (.int kl k)) none).run Tryz.prog w = .ok (.string ⟨(l.take k).toArray⟩) w:=by
 rw [run_slice_string_h (P:=Tryz.prog) w 9 ⟨l.toArray⟩ Tryz.underlying9 kl k (by omega) (by rw [size_mk];omega),Int.toNat_natCast,bytes_ext]
theorem readText_l [Inhabited Thr] (l : List UInt8) (w : World) (hs : l.length ≤ 4096) : Calls Tryz.prog 143 #[.string ⟨l.toArray⟩] w (ReadEnd (texI l) w):=by
 have:=readText_c ⟨l.toArray⟩ w (by rw [size_mk];exact hs)
 simpa using this
theorem number_l (l : List UInt8) (w : World) (h : l.length ≤ 8) : Calls Tryz.prog 142 #[.string ⟨l.toArray⟩] w fun e w' => e = .returned (.int .u64 (numB l : Nat)) ∧ w = w':=by
 have:=number_c ⟨l.toArray⟩ w (by rw [size_mk];exact h)
 simpa using this
def lenS : Value → Nat
 | .string s => s.size
 | _ => 0
theorem readList_c [Inhabited Thr] (r : Nat) (IH : ReadIH r) (l : List UInt8) (d : Nat) (w : World) (hd : d + (r + 1) = 9) (hl : l.length ≤ 4096) : Calls Tryz.prog 144 #[.string ⟨l.toArray⟩,.int .i64 d] w (ReadEnd (lstI (redM (redI r) (l.length + 1) l)) w):=by
 have HIH:=Ld IH
 have HDD:=Ld (show d + 1 + r = 9 by omega)
 have hd8 : d ≤ 8:=by omega
 obtain ⟨R,hR⟩ : ∃ R,redM (redI r) (l.length + 1) l = R:=⟨_,rfl⟩
 have HR:=Ld hR
 rw [hR]
 have hdc : ((d + 1 : Nat) : Int) = (d : Int) + 1:=by omega
 have HRC:=Ld (fun l w => HIH.out l (d + 1) w HDD.out)
 rw [hdc] at HRC
 clear IH hd hR hdc
 obtain ⟨W0,hW0⟩ : ∃ W0,w.alloc (.cells (c6 0 false 0 0 ⟨#[]⟩ none 0 0) 54) = W0:=⟨_,rfl⟩
 have HW0:=Ld hW0
 have HBX:=Ld (fun W (h : Below (w.heap.size + 1) W0 W) => box_i (hW0 ▸ h))
 have HS0:=Ld (show W0.heap.size = w.heap.size + 1 by rw [← hW0];simp)
 clear hW0
 go_enter Tryz.func144,Tryz.ntmps144
 go_upto_region 1 with fail
 rw [show w.alloc (.cells #[.int .u8 0,.bool false,.int .i64 0,.float .f64 0,.string ⟨#[]⟩,.slice none 0 0] 54) = W0 from HW0.out]
 go_wp2
 go_loopw [0,7] (fun s v wr => ∃ (t : List UInt8) (n : Nat) (L : List VI),s = .string ⟨t.toArray⟩ ∧ t.length ≤ 4096 ∧ L.length + t.length ≤ 4096 ∧ Hid (t.length < n) ∧ Hid (R = (redM (redI r) n t).map fun p => (VI.dataL L ++ p.1,p.2)) ∧ Hid (OwnI wr (w.heap.size + 1) v L) ∧ Hid (∀ y ∈ L,BlkV (fun k => w.heap.size + 1 ≤ k) y) ∧ Hid (Below (w.heap.size + 1) W0 wr)) (fun s _ _ => lenS s)
 case atStart => exact ⟨l,l.length + 1,[],rfl,hl,by simpa using hl,Ld (by omega),Ld (by rw [HR.out,VI.dataL];simp),Ld (OwnI.nil _ _),Ld (by simp),Ld (Below.refl _ _)⟩
 case round =>
  obtain ⟨t,n,L,rfl,ht,hLt,hn,hr,hO,hbl,hB⟩:=hrel
  obtain ⟨hr0,hsz,hw⟩:=HBX.out _ hB.out
  have HROW:=Ld hr0
  have HSZ:=Ld (show w.heap.size + 1 ≤ wr.heap.size from hsz)
  have HWB:=Ld hw
  clear hr0 hsz hw
  obtain ⟨n,rfl⟩ : ∃ m,n = m + 1:=⟨n - 1,by have:=hn.out;omega⟩
  cases t with
  | nil =>
    have HE:=Ld (show lstI R = none by rw [hr.out,redM];rfl)
    have hem : ((⟨([] : List UInt8).toArray⟩ : ByteArray).toList == []) = true:=by rw [ByteArray.toList_eq];rfl
    go_wp2_with (refine wpList_store_row rfl 54 (.tmp 4) (.tmp 36) rfl w.heap.size (c6 0 false 0 0 ⟨#[]⟩ none 0 0) rfl rfl 54 _ HROW.out (by kernel_rfl) rfl (one6 _ _ _ _ _ _ _ _) ?_)
    refine bodyPost_ret (results_ctt rfl _ _ w.heap.size 54 _ (0,0) _ rfl (setRow_block _ _ _ _ _ _ (HROW.out)) Tryz.underlying54 rfl (by kernel_rfl)) rfl ⟨below_setRow (HWB.out) (Nat.le_refl _) _,?_⟩
    rw [HE.out]
    rfl
  | cons c t =>
    have hsz:=size_mk (c :: t)
    have hi0:=idx0 c t
    have hem : ((⟨(c :: t).toArray⟩ : ByteArray).toList == []) = false:=by rw [ByteArray.toList_eq];rfl
    by_cases hc : c = 0
    ·subst hc
     have HE:=Ld (show lstI R = some (.mk 6 false 0 0 ⟨#[]⟩ (VI.dataL L),t) by rw [hr.out,redM,if_pos rfl];simp [lstI])
     obtain ⟨A,cA,rfl,hRI⟩:=hO.out.rdi (by simp at hLt;omega)
     have HRI:=Ld hRI
     have HOG:=Ld (fun k (h : (Value.slice A L.length cA).ownBlock = some k) => (hO.out.own.lt k h).1)
     have hsl : ∀ wx : World,(Instr.slice 9 (.string ⟨((0 : UInt8) :: t).toArray⟩) (some (.int .i64 1)) none none).run Tryz.prog wx = .ok (.string ⟨t.toArray⟩) wx:=fun wx => strS_from (0 :: t) 1 (by simp) .i64 wx
     clear hRI
     go_upto_region 10 with fail
     have hBX0 : Box w.heap.size 6 54 w wr:=⟨HWB.out,_,HROW.out,rfl⟩
     refine wp_region_sched (S:=Box w.heap.size 6 54 w) [(0,true),(1,true),(2,true),(3,true),(4,false),(5,true),(6,true)] (by kernel_rfl) (by kernel_rfl) (by kernel_rfl) (fun _ _ d _ _ h => by cases d <;> exact h) hBX0.drew ?_
     repeat (apply sched_take;(exact rfl);rfl;(intro W hW;go_simp;(try with_reducible rfl));simp only [Act.put,List.setIfInBounds_toArray,List.set_cons_zero,List.set_cons_succ])
     apply sched_run;(exact rfl);rfl;intro K hK
     refine wp_store_box hBX0.drew 54 (.tmp 4) (.tmp 38) rfl (c6 6 false 0 0 ⟨#[]⟩ A L.length cA) rfl rfl (by kernel_rfl) rfl (one6 _ _ _ _ _ _ _ _) ?_
     have hB2:=hBX0.drew.setRow (c6 6 false 0 0 ⟨#[]⟩ A L.length cA) rfl
     refine hK.out _ _ hB2 (fun _ => ?_)
     clear hK K
     try simp only [Act.put,List.setIfInBounds_toArray,List.set_cons_zero,List.set_cons_succ]
     repeat (apply sched_take;(exact rfl);rfl;(intro W hW;go_simp;(try with_reducible rfl));simp only [Act.put,List.setIfInBounds_toArray,List.set_cons_zero,List.set_cons_succ])
     refine sched_done ?_
     go_wp2
     refine bodyPost_ret (results_ctt rfl _ _ w.heap.size 54 _ (0,0) _ rfl (setRow_block _ _ _ _ _ _ (show wr.drew.heap[w.heap.size]? = _ from HROW.out)) Tryz.underlying54 rfl (by kernel_rfl)) rfl ⟨hB2.1,?_⟩
     rw [HE.out]
     have hne : ∀ b o,A = some ⟨b,o,none⟩ → 0 < L.length → w.heap.size + 1 ≤ b:=fun b o e h0 => by
      subst e
      exact HOG.out b rfl
     have hkp : Kept (fun k => k = w.heap.size) wr (wr.drew.setRow w.heap.size (c6 6 false 0 0 ⟨#[]⟩ A L.length cA)):=⟨rfl,rfl,rfl,by simp [World.setRow],fun k _ hk => setRow_other _ _ _ _ hk⟩
     refine ⟨.mk 6 false 0 0 ⟨#[]⟩ A cA L,rfl,by rw [VI.data],?_,?_⟩
     ·have hri:=RdI.kept HRI.out hkp (fun h0 b o e => by have:=hne b o e h0;omega) (fun y hy => (hbl.out y hy).mono fun k hk e => by omega)
      exact .mk _ hri.rd hri.hc hri.hb (by show (0 : Nat) ≤ _;decide) (by show (0 : Int) ≤ 6 ∧ (6 : Int) ≤ 255;decide) (by show (0 : Nat) < _;decide) (by show _ ≤ (0 : Int) ∧ (0 : Int) ≤ _;decide) hri.hx (fun h0 b o e _ => (own_hw hO.out.own b o e).block (hkp.block b (own_hw hO.out.own b o e).lt (by have:=hne b o e h0;omega)))
     ·exact .mk _ (fun h0 b o e => by have:=hne b o e h0;omega) (fun y hy => (hbl.out y hy).mono fun k hk => by omega)
    ·have e0 : ((c.toNat : Int) != 0) = true:=by
       rw [bne_iff_ne];intro h;exact hc (UInt8.toNat_inj.1 (by rw [show (0 : UInt8).toNat = 0 from rfl];omega))
     have HM:=Ld (show R = (match redI r (c :: t) with | none => none | some p => (redM (redI r) n p.2).map fun (q : List ItemD × List UInt8) => (p.1 :: q.1,q.2)).map fun (p : List ItemD × List UInt8) => (VI.dataL L ++ p.1,p.2) by rw [hr.out,redM,if_neg hc])
     have HLEN:=Ld (redI_len r (c :: t))
     have HCC:=Ld (fun w => HRC.out (c :: t) w (by simpa using ht))
     cases hq : redI r (c :: t) with
     | none =>
       rw [hq] at HM
       have HE:=Ld (show lstI R = none by rw [HM.out];rfl)
       simp only [hq] at HCC
       clear hq HM hc
       go_wp2_with (first
        | (go_at_call 132;go_must (refine (HCC.out _).mono ?_;rintro e w1 ⟨hb,rfl⟩;simp only [VI.val,VI.k,VI.b,VI.n,VI.f,VI.t,VI.A,VI.c,VI.l,List.length_nil];have hb2:=hb.alloc hb.size (.cells (c6 0 false 0 0 ⟨#[]⟩ none 0 0) 54);have HB2:=Ld (hB.out.trans (hb2.mono HSZ.out));have HROW2:=Ld (HBX.out _ HB2.out);clear hb hb2))
        | (refine wpList_store_row rfl 54 (.tmp 4) (.tmp 28) rfl w.heap.size (c6 0 false 0 0 ⟨#[]⟩ none 0 0) rfl rfl 54 _ HROW2.out.1 (by kernel_rfl) rfl (one6 _ _ _ _ _ _ _ _) ?_))
       refine bodyPost_ret (results_ctt rfl _ _ w.heap.size 54 _ (0,0) _ rfl (setRow_block _ _ _ _ _ _ HROW2.out.1) Tryz.underlying54 rfl (by kernel_rfl)) rfl ⟨below_setRow HROW2.out.2.2 (Nat.le_refl _) _,?_⟩
       rw [HE.out]
       rfl
     | some p =>
       rw [hq] at HM
       have HPL:=Ld (HLEN.out p hq)
       simp only [hq] at HCC
       obtain ⟨pi,pr⟩:=p
       simp only at HM HPL HCC
       clear hq hc
       go_wp2_with (first
        | (go_at_call 132;go_must (refine (HCC.out _).mono ?_;rintro e w1 ⟨hb,x,rfl,hx,hrx,hbx⟩;have HX:=Ld hx;have HRX:=Ld hrx;have HBV:=Ld hbx;have HBW:=Ld hb;rcases x with ⟨xk,xb,xn,xf,xt,xA,xc,xl⟩;simp only [VI.val,VI.k,VI.b,VI.n,VI.f,VI.t,VI.A,VI.c,VI.l];clear hx hrx hbx hb))
        | (at_builtin;have hba:=(Below.refl w1.heap.size w1).alloc (Nat.le_refl _) (.cells (c6 xk xb xn xf xt xA xl.length xc) 54);have hbb:=hba.trans (((Below.refl _ _).alloc (Nat.le_refl _) (.cells (c6 xk xb xn xf xt xA xl.length xc) 54)).mono hba.size);refine wpList_items (B:=w.heap.size + 1) (l:=L) (ys:=[VI.mk xk xb xn xf xt xA xc xl]) rfl (.tmp 29) (.tmp 31) rfl (hO.out.below (HBW.out.trans (hbb.mono HBW.out.size))) rfl rfl (rd_items (w1.alloc (.cells (c6 xk xb xn xf xt xA xl.length xc) 54)) _ [VI.mk xk xb xn xf xt xA xc xl] rfl (by simp) rfl) rfl (one_all (HRX.out.grow hbb)) (one_all (HBV.out.mono fun k hk e => by have:=(hO.out.own.lt k e).2;omega)) (by simp only [List.length_cons] at hLt ⊢;omega) (Nat.le_trans HSZ.out (Nat.le_trans HBW.out.size hbb.size)) ?_;intro v2 w2 hO2 hK2 _;have HB2:=Ld ((hB.out.trans ((HBW.out.trans (hbb.mono HBW.out.size)).mono HSZ.out)).trans (hK2.below (Nat.le_trans HSZ.out (Nat.le_trans HBW.out.size hbb.size)) (fun j hj e => by have:=(hO.out.own.lt j e).1;omega)));have HO2:=Ld hO2;clear hO2 hK2 hba hbb))
       refine ⟨⟨pr,n,L ++ [VI.mk xk xb xn xf xt xA xc xl],rfl,?_,?_,Ld ?_,Ld ?_,HO2,Ld ?_,HB2⟩,?_⟩
       ·have:=HPL.out;simp only [List.length_cons] at ht this;omega
       ·have:=HPL.out;simp only [List.length_cons,List.length_append,List.length_nil] at hLt this ⊢;omega
       ·have:=HPL.out;have:=hn.out;simp only [List.length_cons] at *;omega
       ·rw [HM.out,dataL_eq,dataL_eq,List.map_append,List.map_cons,List.map_nil,HX.out]
        cases redM (redI r) n pr <;> simp
       ·intro y hy
        rcases List.mem_append.1 hy with hy | hy
        ·exact hbl.out y hy
        ·obtain rfl : y = VI.mk xk xb xn xf xt xA xc xl:=by simpa using hy
         exact HBV.out.mono fun k hk => by have:=HSZ.out;omega
       ·have:=HPL.out
        simp only [lenS,size_mk,List.length_cons] at this ⊢
        omega
end
end Go.Proofs.YtonjgedhmmnolaaGreatDoor
