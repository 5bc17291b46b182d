import Derived.Test.YtonjgedhmmnolaaGreatDoorZ13
namespace Go.Proofs.YtonjgedhmmnolaaGreatDoor
section
open Go.RowKit
set_option maxHeartbeats 1000000
set_option maxRecDepth 100000
theorem weight_c [Inhabited Thr] : ∀ (s : Nat) (l : List VI) (A : Option Addr) (c : Nat) (w : World),SizeOf.sizeOf l ≤ s → RdI w A c l → Calls Tryz.prog 24 #[.slice A l.length c] w fun e w' => (∃ n,e = .returned (.int .i64 n)) ∧ Below w.heap.size w w':=by
 intro s
 induction s with
 | zero => intro l A c w hs;exfalso;cases l <;> simp at hs
 | succ s ih =>
 intro l A c w hs hL
 have HIH:=Ld ih
 have HS:=Ld hs
 have HL:=Ld hL
 have hlb:=hL.hb
 clear ih hs hL
 go_enter Tryz.func24,Tryz.ntmps24
 go_wp2
 go_loopw [4,3] (fun i v wr => ∃ (k : Nat) (n : Int),k ≤ l.length ∧ i = .int .i64 k ∧ v = .int .i64 n ∧ Hid (Below w.heap.size w wr)) (fun i _ _ => l.length - (intOf i).toNat)
 case atStart => exact ⟨0,_,Nat.zero_le _,rfl,rfl,Ld (Below.refl _ _)⟩
 case round =>
  obtain ⟨k,n,hk,rfl,rfl,hB⟩:=hrel
  by_cases hlt : k < l.length
  ·by_cases hn : n < 100000
   ·have HLr:=Ld (HL.out.below hB.out)
    obtain ⟨ab,ao,rfl⟩ : ∃ ab ao,A = some ⟨ab,ao,none⟩:=by obtain ⟨b,o,e,_⟩:=HLr.out.rd.2 (by omega);exact ⟨b,o,e⟩
    have HIT:=Ld (fun W (h : Below wr.heap.size wr W) => item_at (HLr.out.below h).rd hlt)
    have HX:=Ld (HLr.out.hx _ (List.getElem_mem hlt))
    have HSX:=Ld (show SizeOf.sizeOf l[k].l ≤ s by have h1:=sz_lt (List.getElem_mem hlt);have h2:=HS.out;have h3:=sz_list l[k];omega)
    obtain ⟨y,hy⟩ : ∃ y,l[k] = y:=⟨_,rfl⟩
    simp only [hy] at HIT HX HSX
    clear hy
    rcases y with ⟨yk,yb,yn,yf,yt,yA,yc,yl⟩
    simp only [VI.k,VI.b,VI.n,VI.f,VI.t,VI.A,VI.c,VI.l] at HIT HSX
    have HYL:=Ld (show RdI wr yA yc yl from HX.out.list)
    go_wp2
    refine wp_region_sched (S:=fun W => Below wr.heap.size wr W) [(0,true),(1,true),(2,true),(3,true),(4,true),(5,true),(6,true),(7,true),(8,true),(9,true),(10,true),(11,true),(12,true),(13,false),(14,true),(15,true)] (by kernel_rfl) (by kernel_rfl) (by kernel_rfl) (fun _ _ d _ _ h => by cases d <;> exact h) (Below.refl _ _).drew ?_
    repeat (apply sched_take;(exact rfl);rfl;(intro W hW;obtain ⟨p0,p1,p2,p3,p4,p5⟩:=HIT.out W hW;go_simp;(try with_reducible rfl));simp only [Act.put,List.setIfInBounds_toArray,List.set_cons_zero,List.set_cons_succ])
    apply sched_run;(exact rfl);rfl;intro K hK;go_simp
    have hbd:=(Below.refl wr.heap.size wr).drew
    refine (HIH.out yl yA yc _ HSX.out (HYL.out.below hbd)).mono ?_
    rintro e w1 ⟨⟨m,rfl⟩,hb⟩
    have HB1:=Ld (hbd.trans (hb.mono (show wr.heap.size ≤ _ from hbd.size)))
    clear hbd hb
    refine hK.out _ _ HB1.out (fun _ => ?_)
    clear hK K
    try simp only [Act.put,List.setIfInBounds_toArray,List.set_cons_zero,List.set_cons_succ]
    repeat (apply sched_take;(exact rfl);rfl;(intro W hW;go_simp;(try with_reducible rfl));simp only [Act.put,List.setIfInBounds_toArray,List.set_cons_zero,List.set_cons_succ])
    refine sched_done ?_
    go_wp2
    exact ⟨⟨k + 1,_,by omega,by go_num,rfl,Ld (hB.out.trans (HB1.out.mono hB.out.size))⟩,by simp [intOf];omega⟩
   ·go_wp2
    go_ret
    exact ⟨⟨_,rfl⟩,hB.out⟩
  ·go_wp2
   go_ret
   exact ⟨⟨_,rfl⟩,hB.out⟩
theorem box_q {w W : World} {a0 a1 a2 a3 a4 a5 a6 a7 a8 : Value} (h : Below (w.heap.size + 1) (w.alloc (.cells #[a0,a1,a2,a3,a4,a5,a6,a7,a8] 33)) W) :
 (W.cell? ⟨w.heap.size,0,none⟩ = some a0 ∧ W.cell? ⟨w.heap.size,1,none⟩ = some a1 ∧ W.cell? ⟨w.heap.size,2,none⟩ = some a2 ∧ W.cell? ⟨w.heap.size,3,none⟩ = some a3 ∧ W.cell? ⟨w.heap.size,4,none⟩ = some a4 ∧ W.cell? ⟨w.heap.size,5,none⟩ = some a5 ∧ W.cell? ⟨w.heap.size,6,none⟩ = some a6 ∧ W.cell? ⟨w.heap.size,7,none⟩ = some a7 ∧ W.cell? ⟨w.heap.size,8,none⟩ = some a8) ∧ w.heap.size < W.heap.size ∧ Below w.heap.size w W:=by
 have h1 : W.heap[w.heap.size]? = some (.cells #[a0,a1,a2,a3,a4,a5,a6,a7,a8] 33 (0,0)):=(h.block _ (by omega)).trans (heap_alloc_new w _)
 exact ⟨⟨cell_of_row _ _ 0 _ _ _ h1,cell_of_row _ _ 1 _ _ _ h1,cell_of_row _ _ 2 _ _ _ h1,cell_of_row _ _ 3 _ _ _ h1,cell_of_row _ _ 4 _ _ _ h1,cell_of_row _ _ 5 _ _ _ h1,cell_of_row _ _ 6 _ _ _ h1,cell_of_row _ _ 7 _ _ _ h1,cell_of_row _ _ 8 _ _ _ h1⟩,(Array.getElem?_eq_some_iff.1 h1).1,((Below.refl _ _).alloc (Nat.le_refl _) _).trans (h.mono (by omega))⟩
def SomeB (e : Ending) : Prop:=∃ b,e = .returned (.bool b)
theorem vast_c [Inhabited Thr] (q : QryV) (w : World) (hQ : RdQ w q) : Calls Tryz.prog 9 #[q.val] w fun e w' => SomeB e ∧ Below w.heap.size w w':=by
 have HQ:=Ld hQ
 have hwb:=hQ.wb
 rcases q with ⟨qt,fr,tt,wh,qc,qd,ql,qf,qo,AF,cF,AT,cT,AW,cW,AC,cC⟩
 simp only [QryV.val,QryV.cells] at hwb ⊢
 obtain ⟨W0,hW0⟩ : ∃ W0,w.alloc (.cells #[.string qt,.slice AF fr.length cF,.slice AT tt.length cT,.slice AW wh.length cW,.slice AC qc.length cC,.bool qd,.int .i64 ql,.int .u8 qf,.string qo] 33) = W0:=⟨_,rfl⟩
 have HW0:=Ld hW0
 have HBX:=Ld (fun W (h : Below (w.heap.size + 1) W0 W) => box_q (hW0 ▸ h))
 have HS0:=Ld (show W0.heap.size = w.heap.size + 1 by rw [← hW0];simp)
 clear hQ hW0
 go_enter Tryz.func9,Tryz.ntmps9
 go_upto_region 1 with fail
 rw [HW0.out]
 refine wp_region_sched (S:=fun W => Below (w.heap.size + 1) W0 W) [(0,true),(1,true),(3,true),(4,true),(2,false),(5,false),(6,true),(7,true)] (by kernel_rfl) (by kernel_rfl) (by kernel_rfl) (fun _ _ d _ _ h => by cases d <;> exact h) (Below.refl _ _).drew ?_
 repeat (apply sched_take;(exact rfl);rfl;(intro W hW;obtain ⟨⟨a0,a1,a2,a3,a4,a5,a6,a7,a8⟩,q3,_⟩:=HBX.out W hW;go_simp;(try with_reducible rfl));simp only [Act.put,List.setIfInBounds_toArray,List.set_cons_zero,List.set_cons_succ])
 apply sched_run;(exact rfl);rfl;intro K hK;go_simp
 have hbd:=(Below.refl (w.heap.size + 1) W0).drew
 refine (weight_c _ fr AF cF _ (Nat.le_refl _) (HQ.out.fr.below (HBX.out _ hbd).2.2)).mono ?_
 rintro e w1 ⟨⟨m1,rfl⟩,hb⟩
 have HB1:=Ld (hbd.trans (hb.mono (by rw [← HS0.out];exact hbd.size)))
 clear hbd hb
 refine hK.out _ _ HB1.out (fun _ => ?_)
 clear hK K
 try simp only [Act.put,List.setIfInBounds_toArray,List.set_cons_zero,List.set_cons_succ]
 apply sched_run;(exact rfl);rfl;intro K hK;go_simp
 refine (weight_c _ tt AT cT _ (Nat.le_refl _) (HQ.out.tt.below (HBX.out _ HB1.out).2.2)).mono ?_
 rintro e w2 ⟨⟨m2,rfl⟩,hb⟩
 have HB2:=Ld (HB1.out.trans (hb.mono (by rw [← HS0.out];exact HB1.out.size)))
 clear hb
 refine hK.out _ _ HB2.out (fun _ => ?_)
 clear hK K
 try simp only [Act.put,List.setIfInBounds_toArray,List.set_cons_zero,List.set_cons_succ]
 repeat (apply sched_take;(exact rfl);rfl;(intro W hW;go_simp;(try with_reducible rfl));simp only [Act.put,List.setIfInBounds_toArray,List.set_cons_zero,List.set_cons_succ])
 refine sched_done ?_
 go_wp2
 go_loopw [4,3] (fun i v wr => ∃ (k : Nat) (n : Int),k ≤ wh.length ∧ i = .int .i64 k ∧ v = .int .i64 n ∧ Hid (Below (w.heap.size + 1) W0 wr)) (fun i _ _ => wh.length - (intOf i).toNat)
 case atStart => exact ⟨0,_,Nat.zero_le _,rfl,rfl,HB2⟩
 case round =>
  obtain ⟨k,n,hk,rfl,rfl,hB⟩:=hrel
  obtain ⟨⟨a0,a1,a2,a3,a4,a5,a6,a7,a8⟩,q3,q4⟩:=HBX.out _ hB.out
  have HWr:=Ld q4
  clear q4
  by_cases hlt : k < wh.length
  ·by_cases hn : n < 100000
   ·have HQr:=Ld (HQ.out.below HWr.out)
    obtain ⟨ab,ao,rfl⟩ : ∃ ab ao,AW = some ⟨ab,ao,none⟩:=by obtain ⟨b,o,e,_⟩:=HQr.out.wh.2 (show 0 < wh.length by omega);exact ⟨b,o,e⟩
    have HIT:=Ld (fun W (h : Below wr.heap.size wr W) => cond_at (HQr.out.below h).wh hlt)
    have HBY:=Ld (fun W (h : Below wr.heap.size wr W) => (HBX.out W (hB.out.trans (h.mono (show w.heap.size + 1 ≤ wr.heap.size from q3)))).1)
    have HX:=Ld (HQr.out.wx _ (List.getElem_mem hlt))
    simp only at HIT HX
    obtain ⟨y,hy⟩ : ∃ y,wh[k] = y:=⟨_,rfl⟩
    simp only [hy] at HIT HX
    clear hy
    rcases y with ⟨xc,xk,⟨yk,yb,yn,yf,yt,yA,yc,yl⟩⟩
    simp only [VI.k,VI.b,VI.n,VI.f,VI.t,VI.A,VI.c,VI.l] at HIT
    have HYL:=Ld (show RdI wr yA yc yl from HX.out.1.list)
    go_wp2
    refine wp_region_sched (S:=fun W => Below wr.heap.size wr W) [(0,true),(1,true),(2,true),(3,true),(4,true),(5,true),(6,true),(7,true),(8,true),(9,true),(10,true),(11,true),(12,true),(13,true),(14,true),(15,true),(16,true),(17,true),(18,false),(19,true),(20,true)] (by kernel_rfl) (by kernel_rfl) (by kernel_rfl) (fun _ _ d _ _ h => by cases d <;> exact h) (Below.refl _ _).drew ?_
    repeat (apply sched_take;(exact rfl);rfl;(intro W hW;obtain ⟨p0,p1,p2,p3,p4,p5,p6,p7⟩:=HIT.out W hW;obtain ⟨a0,a1,a2,a3,a4,a5,a6,a7,a8⟩:=HBY.out W hW;go_simp;(try with_reducible rfl));simp only [Act.put,List.setIfInBounds_toArray,List.set_cons_zero,List.set_cons_succ])
    apply sched_run;(exact rfl);rfl;intro K hK;go_simp
    have hbd:=(Below.refl wr.heap.size wr).drew
    refine (weight_c _ yl yA yc _ (Nat.le_refl _) (HYL.out.below hbd)).mono ?_
    rintro e w3 ⟨⟨m,rfl⟩,hb⟩
    have HB3:=Ld (hbd.trans (hb.mono (show wr.heap.size ≤ _ from hbd.size)))
    clear hbd hb
    refine hK.out _ _ HB3.out (fun _ => ?_)
    clear hK K
    try simp only [Act.put,List.setIfInBounds_toArray,List.set_cons_zero,List.set_cons_succ]
    repeat (apply sched_take;(exact rfl);rfl;(intro W hW;go_simp;(try with_reducible rfl));simp only [Act.put,List.setIfInBounds_toArray,List.set_cons_zero,List.set_cons_succ])
    refine sched_done ?_
    go_wp2
    exact ⟨⟨k + 1,_,by omega,by go_num,rfl,Ld (hB.out.trans (HB3.out.mono q3))⟩,by simp [intOf];omega⟩
   ·go_wp2
    go_ret
    exact ⟨⟨_,rfl⟩,HWr.out⟩
  ·go_wp2
   go_ret
   exact ⟨⟨_,rfl⟩,HWr.out⟩
end
section
open Go.RowKit
set_option maxHeartbeats 1000000
set_option maxRecDepth 100000
inductive SameI : ItemD → ItemD → Prop
 | mk (k : Int) (b : Bool) (n : Int) (f g : Nat) (t : ByteArray) (l m : List ItemD) (hf : bitsF f = bitsF g) (hl : l.length = m.length) (hx : ∀ i (h1 : i < l.length) (h2 : i < m.length),SameI l[i] m[i]) : SameI (.mk k b n f t l) (.mk k b n g t m)
theorem SameI.refl (s : Nat) : ∀ x : ItemD,SizeOf.sizeOf x ≤ s → SameI x x:=by
 induction s with
 | zero => intro x h;exfalso;cases x;simp at h
 | succ s ih =>
   intro x h
   rcases x with ⟨k,b,n,f,t,l⟩
   refine .mk k b n f f t l l rfl rfl fun i h1 _ => ih _ ?_
   have:=List.sizeOf_lt_of_mem (List.getElem_mem h1)
   simp at h
   omega
structure SameL (a b : List ItemD) : Prop where
 len : a.length = b.length
 hx : ∀ i (h1 : i < a.length) (h2 : i < b.length),SameI a[i] b[i]
theorem SameL.refl (a : List ItemD) : SameL a a:=⟨rfl,fun _ _ _ => SameI.refl _ _ (Nat.le_refl _)⟩
theorem SameI.parts {xk yk xn yn : Int} {xb yb : Bool} {xf yf xc yc : Nat} {xt yt : ByteArray} {xA yA : Option Addr} {xl yl : List VI} (h : SameI (VI.mk xk xb xn xf xt xA xc xl).data (VI.mk yk yb yn yf yt yA yc yl).data) :
 yk = xk ∧ yb = xb ∧ yn = xn ∧ bitsF yf = bitsF xf ∧ yt = xt ∧ SameL (VI.dataL xl) (VI.dataL yl):=by
 simp only [VI.data] at h
 cases h with
 | mk _ _ _ _ _ _ _ _ hf hl hx => exact ⟨rfl,rfl,rfl,hf.symm,rfl,hl,hx⟩
theorem refBits_c (f : Nat) (w : World) : Calls Tryz.prog 72 #[.float .f64 f] w fun e w' => e = .returned (.int .u64 (bitsF f)) ∧ w = w':=by
 have hc:=bits_call
 go_enter Tryz.func72,Tryz.ntmps72
 go_wp2
 all_goals first
  | (go_ret
     refine ⟨?_,rfl⟩
     simp_all [bitsF,isNan]
     done)
  | skip
structure TwoAt (w : World) (g1 g2 : Nat) (cs1 cs2 : Array Value) (W : World) : Prop where
 r1 : W.heap[g1]? = some (.cells cs1 54 (0,0))
 r2 : W.heap[g2]? = some (.cells cs2 54 (0,0))
 b : Below w.heap.size w W
theorem TwoAt.cells {w W W' : World} {g1 g2 : Nat} {k n k' n' : Int} {b b' : Bool} {f f' l l' c c' : Nat} {t t' : ByteArray} {A A' : Option Addr} (h : TwoAt w g1 g2 (c6 k b n f t A l c) (c6 k' b' n' f' t' A' l' c') W) (hb : Below W.heap.size W W') :
 (W'.cell? ⟨g1,0,none⟩ = some (.int .u8 k) ∧ W'.cell? ⟨g1,1,none⟩ = some (.bool b) ∧ W'.cell? ⟨g1,2,none⟩ = some (.int .i64 n) ∧ W'.cell? ⟨g1,3,none⟩ = some (.float .f64 f) ∧ W'.cell? ⟨g1,4,none⟩ = some (.string t) ∧ W'.cell? ⟨g1,5,none⟩ = some (.slice A l c)) ∧
 (W'.cell? ⟨g2,0,none⟩ = some (.int .u8 k') ∧ W'.cell? ⟨g2,1,none⟩ = some (.bool b') ∧ W'.cell? ⟨g2,2,none⟩ = some (.int .i64 n') ∧ W'.cell? ⟨g2,3,none⟩ = some (.float .f64 f') ∧ W'.cell? ⟨g2,4,none⟩ = some (.string t') ∧ W'.cell? ⟨g2,5,none⟩ = some (.slice A' l' c')):=by
 have h1:=row_keep' h.r1 hb
 have h2:=row_keep' h.r2 hb
 exact ⟨⟨cell_of_row _ _ 0 _ _ _ h1,cell_of_row _ _ 1 _ _ _ h1,cell_of_row _ _ 2 _ _ _ h1,cell_of_row _ _ 3 _ _ _ h1,cell_of_row _ _ 4 _ _ _ h1,cell_of_row _ _ 5 _ _ _ h1⟩,⟨cell_of_row _ _ 0 _ _ _ h2,cell_of_row _ _ 1 _ _ _ h2,cell_of_row _ _ 2 _ _ _ h2,cell_of_row _ _ 3 _ _ _ h2,cell_of_row _ _ 4 _ _ _ h2,cell_of_row _ _ 5 _ _ _ h2⟩⟩
theorem same_c [Inhabited Thr] : ∀ (s : Nat) (l m : List VI) (A B : Option Addr) (c d : Nat) (w : World),SizeOf.sizeOf l ≤ s → RdI w A c l → RdI w B d m → SameL (VI.dataL l) (VI.dataL m) →
 Calls Tryz.prog 40 #[.slice A l.length c,.slice B m.length d] w fun e w' => e = .returned (.bool true) ∧ Below w.heap.size w w':=by
 intro s
 induction s with
 | zero => intro l m A B c d w hs;exfalso;cases l <;> simp at hs
 | succ s ih =>
 intro l m A B c d w hs hL hM hE
 have HIH:=Ld ih
 have HS:=Ld hs
 have HL:=Ld hL
 have HM:=Ld hM
 have HE:=Ld hE
 have hlb:=hL.hb
 have HLN:=Ld (show l.length = m.length by have:=hE.len;rw [dataL_eq,dataL_eq,List.length_map,List.length_map] at this;exact this)
 rw [← HLN.out]
 have e0 : ((l.length : Int) != l.length) = false:=by simp
 clear ih hs hL hM hE
 go_enter Tryz.func40,Tryz.ntmps40
 go_wp2
 go_loopw [5] (fun i wr => ∃ (k : Nat),k ≤ l.length ∧ i = .int .i64 k ∧ Hid (Below w.heap.size w wr)) (fun i _ => l.length - (intOf i).toNat)
 case atStart => exact ⟨0,Nat.zero_le _,rfl,Ld (Below.refl _ _)⟩
 case round =>
  obtain ⟨k,hk,rfl,hB⟩:=hrel
  by_cases hlt : k < l.length
  ·have HLr:=Ld (HL.out.below hB.out)
   have HMr:=Ld (HM.out.below hB.out)
   have hltm : k < m.length:=by rw [← HLN.out];exact hlt
   obtain ⟨ab,ao,rfl⟩ : ∃ ab ao,A = some ⟨ab,ao,none⟩:=by obtain ⟨b,o,e,_⟩:=HLr.out.rd.2 (by omega);exact ⟨b,o,e⟩
   obtain ⟨mb,mo,rfl⟩ : ∃ ab ao,B = some ⟨ab,ao,none⟩:=by obtain ⟨b,o,e,_⟩:=HMr.out.rd.2 (by omega);exact ⟨b,o,e⟩
   have HIT:=Ld (fun W (h : Below wr.heap.size wr W) => item_at (HLr.out.below h).rd hlt)
   have HIU:=Ld (fun W (h : Below wr.heap.size wr W) => item_at (HMr.out.below h).rd hltm)
   have HX:=Ld (HLr.out.hx _ (List.getElem_mem hlt))
   have HY:=Ld (HMr.out.hx _ (List.getElem_mem hltm))
   have HSX:=Ld (show SizeOf.sizeOf l[k].l ≤ s by have h1:=sz_lt (List.getElem_mem hlt);have h2:=HS.out;have h3:=sz_list l[k];omega)
   have HEK:=Ld (show SameI l[k].data m[k].data by
    have:=HE.out.hx k (by rw [dataL_eq,List.length_map];exact hlt) (by rw [dataL_eq,List.length_map];exact hltm)
    rw [data_at l k hlt,data_at m k hltm] at this;exact this)
   obtain ⟨x,hx⟩ : ∃ x,l[k] = x:=⟨_,rfl⟩
   obtain ⟨y,hy⟩ : ∃ y,m[k] = y:=⟨_,rfl⟩
   simp only [hx] at HIT HX HSX HEK
   simp only [hy] at HIU HY HEK
   clear hx hy hltm
   rcases x with ⟨xk,xb,xn,xf,xt,xA,xc,xl⟩
   rcases y with ⟨yk,yb,yn,yf,yt,yA,yc,yl⟩
   obtain ⟨rfl,rfl,rfl,hbf,rfl,hsl⟩:=SameI.parts HEK.out
   have HBF:=Ld hbf
   have HSL:=Ld hsl
   simp only [VI.k,VI.b,VI.n,VI.f,VI.t,VI.A,VI.c,VI.l] at HIT HIU HSX
   have HXL:=Ld (show RdI wr xA xc xl from HX.out.list)
   have HYL:=Ld (show RdI wr yA yc yl from HY.out.list)
   clear hbf hsl HEK
   go_upto_region 6 with fail
   go_cut [6,7] from 13 to 69 (fun s6 s7 wx => ∃ g1 g2 : Nat,s6 = .pointer (some ⟨g1,0,none⟩) ∧ s7 = .pointer (some ⟨g2,0,none⟩) ∧ Hid (TwoAt wr g1 g2 (c6 yk yb yn xf yt xA xl.length xc) (c6 yk yb yn yf yt yA yl.length yc) wx))
   case first =>
    refine wp_region_tree (S:=fun W => Below wr.heap.size wr W)
     (.take 0 (.take 1 (.take 2 (.take 3 (.take 4 (.take 5 (.take 6 (.take 7 (.two 8 9 (.run 9 (.run 10 (.run 11 (.done)))) (.run 8 (.run 10 (.run 11 (.done)))))))))))))
     (by kernel_rfl) (by kernel_rfl) (by kernel_rfl) (fun _ _ d _ _ h => by cases d <;> exact h) (Below.refl _ _).drew ?_
    repeat (apply tree_take;(exact rfl);rfl;(intro W hW;obtain ⟨p0,p1,p2,p3,p4,p5⟩:=HIT.out W hW;obtain ⟨q0,q1,q2,q3,q4,q5⟩:=HIU.out W hW;go_simp;(try with_reducible rfl));simp only [Act.put,List.setIfInBounds_toArray,List.set_cons_zero,List.set_cons_succ])
    refine tree_two ?_ ?_
    ·apply tree_run;(exact rfl);rfl;intro K hK;go_simp
     refine hK.out _ _ ((Below.refl wr.heap.size wr).alloc (Nat.le_refl _) (.cells (c6 0 false 0 0 ⟨#[]⟩ none 0 0) 54)).drew (fun _ => ?_)
     clear hK K
     try simp only [Act.put,List.setIfInBounds_toArray,List.set_cons_zero,List.set_cons_succ]
     apply tree_run;(exact rfl);rfl;intro K hK;go_simp
     refine hK.out _ _ (((Below.refl wr.heap.size wr).alloc (Nat.le_refl _) (.cells (c6 0 false 0 0 ⟨#[]⟩ none 0 0) 54)).alloc (by simp) (.cells (c6 0 false 0 0 ⟨#[]⟩ none 0 0) 54)).drew (fun _ => ?_)
     clear hK K
     try simp only [Act.put,List.setIfInBounds_toArray,List.set_cons_zero,List.set_cons_succ]
     apply tree_run;(exact rfl);rfl;intro K hK;go_simp
     refine hK.out _ _ (((Below.refl wr.heap.size wr).alloc (Nat.le_refl _) (.cells (c6 yk yb yn xf yt xA xl.length xc) 54)).alloc (by simp) (.cells (c6 0 false 0 0 ⟨#[]⟩ none 0 0) 54)).drew (fun _ => ?_)
     clear hK K
     try simp only [Act.put,List.setIfInBounds_toArray,List.set_cons_zero,List.set_cons_succ]
     apply tree_run;(exact rfl);rfl;intro K hK;go_simp
     refine hK.out _ _ (((Below.refl wr.heap.size wr).alloc (Nat.le_refl _) (.cells (c6 yk yb yn xf yt xA xl.length xc) 54)).alloc (by simp) (.cells (c6 yk yb yn yf yt yA yl.length yc) 54)).drew (fun _ => ?_)
     clear hK K
     try simp only [Act.put,List.setIfInBounds_toArray,List.set_cons_zero,List.set_cons_succ]
     refine tree_done ?_
     go_wp2
     go_meet
     case rel => exact ⟨wr.heap.size,wr.heap.size + 1,rfl,rfl,Ld ⟨row_keep' (heap_alloc_new wr (.cells (c6 yk yb yn xf yt xA xl.length xc) 54)) ((Below.refl _ _).alloc (Nat.le_refl _) (.cells (c6 yk yb yn yf yt yA yl.length yc) 54)).drew,alloc2_at wr (.cells (c6 yk yb yn xf yt xA xl.length xc) 54) (.cells (c6 yk yb yn yf yt yA yl.length yc) 54),(((Below.refl wr.heap.size wr).alloc (Nat.le_refl _) (.cells (c6 yk yb yn xf yt xA xl.length xc) 54)).alloc (by simp) (.cells (c6 yk yb yn yf yt yA yl.length yc) 54)).drew⟩⟩
    ·apply tree_run;(exact rfl);rfl;intro K hK;go_simp
     refine hK.out _ _ ((Below.refl wr.heap.size wr).alloc (Nat.le_refl _) (.cells (c6 0 false 0 0 ⟨#[]⟩ none 0 0) 54)).drew (fun _ => ?_)
     clear hK K
     try simp only [Act.put,List.setIfInBounds_toArray,List.set_cons_zero,List.set_cons_succ]
     apply tree_run;(exact rfl);rfl;intro K hK;go_simp
     refine hK.out _ _ (((Below.refl wr.heap.size wr).alloc (Nat.le_refl _) (.cells (c6 0 false 0 0 ⟨#[]⟩ none 0 0) 54)).alloc (by simp) (.cells (c6 0 false 0 0 ⟨#[]⟩ none 0 0) 54)).drew (fun _ => ?_)
     clear hK K
     try simp only [Act.put,List.setIfInBounds_toArray,List.set_cons_zero,List.set_cons_succ]
     apply tree_run;(exact rfl);rfl;intro K hK;go_simp
     refine hK.out _ _ (((Below.refl wr.heap.size wr).alloc (Nat.le_refl _) (.cells (c6 0 false 0 0 ⟨#[]⟩ none 0 0) 54)).alloc (by simp) (.cells (c6 yk yb yn xf yt xA xl.length xc) 54)).drew (fun _ => ?_)
     clear hK K
     try simp only [Act.put,List.setIfInBounds_toArray,List.set_cons_zero,List.set_cons_succ]
     apply tree_run;(exact rfl);rfl;intro K hK;go_simp
     refine hK.out _ _ (((Below.refl wr.heap.size wr).alloc (Nat.le_refl _) (.cells (c6 yk yb yn yf yt yA yl.length yc) 54)).alloc (by simp) (.cells (c6 yk yb yn xf yt xA xl.length xc) 54)).drew (fun _ => ?_)
     clear hK K
     try simp only [Act.put,List.setIfInBounds_toArray,List.set_cons_zero,List.set_cons_succ]
     refine tree_done ?_
     go_wp2
     go_meet
     case rel => exact ⟨wr.heap.size + 1,wr.heap.size,rfl,rfl,Ld ⟨alloc2_at wr (.cells (c6 yk yb yn yf yt yA yl.length yc) 54) (.cells (c6 yk yb yn xf yt xA xl.length xc) 54),row_keep' (heap_alloc_new wr (.cells (c6 yk yb yn yf yt yA yl.length yc) 54)) ((Below.refl _ _).alloc (Nat.le_refl _) (.cells (c6 yk yb yn xf yt xA xl.length xc) 54)).drew,(((Below.refl wr.heap.size wr).alloc (Nat.le_refl _) (.cells (c6 yk yb yn yf yt yA yl.length yc) 54)).alloc (by simp) (.cells (c6 yk yb yn xf yt xA xl.length xc) 54)).drew⟩⟩
   case rest =>
    obtain ⟨g1,g2,rfl,rfl,hT⟩:=hcut
    have HTC:=Ld (fun W (h : Below wc.heap.size wc W) => hT.out.cells h)
    go_wp2
    refine wp_region_sched (S:=fun W => Below wc.heap.size wc W) [(0,true),(1,true),(2,true),(3,true),(4,true),(5,true),(6,true),(7,true),(8,true),(9,true),(10,true),(11,true),(12,true),(13,true),(14,true),(15,true),(16,true),(17,true),(18,true),(19,true),(20,true),(21,true),(23,true),(24,true),(22,false),(25,false),(26,true),(27,true),(28,true),(29,true),(30,true),(31,true),(32,true),(33,true),(34,true),(35,true),(36,true),(37,true),(38,true),(39,true),(40,false),(41,true),(42,true)] (by kernel_rfl) (by kernel_rfl) (by kernel_rfl) (fun _ _ d _ _ h => by cases d <;> exact h) (Below.refl _ _).drew ?_
    repeat (apply sched_take;(exact rfl);rfl;(intro W hW;obtain ⟨⟨p0,p1,p2,p3,p4,p5⟩,⟨q0,q1,q2,q3,q4,q5⟩⟩:=HTC.out W hW;go_simp;(try with_reducible rfl));simp only [Act.put,List.setIfInBounds_toArray,List.set_cons_zero,List.set_cons_succ])
    apply sched_run;(exact rfl);rfl;intro K hK;go_simp
    have hbd:=(Below.refl wc.heap.size wc).drew
    refine (refBits_c xf _).mono ?_
    rintro e w1 ⟨rfl,rfl⟩
    refine hK.out _ _ hbd (fun _ => ?_)
    clear hK K
    try simp only [Act.put,List.setIfInBounds_toArray,List.set_cons_zero,List.set_cons_succ]
    apply sched_run;(exact rfl);rfl;intro K hK;go_simp
    refine (refBits_c yf _).mono ?_
    rintro e w1 ⟨rfl,rfl⟩
    rw [HBF.out]
    refine hK.out _ _ hbd (fun _ => ?_)
    clear hK K
    try simp only [Act.put,List.setIfInBounds_toArray,List.set_cons_zero,List.set_cons_succ]
    have eb : ((bitsF xf : Int) != (bitsF xf : Int)) = false:=by simp
    repeat (apply sched_take;(exact rfl);rfl;(intro W hW;obtain ⟨⟨p0,p1,p2,p3,p4,p5⟩,⟨q0,q1,q2,q3,q4,q5⟩⟩:=HTC.out W hW;go_simp;(try with_reducible rfl));simp only [Act.put,List.setIfInBounds_toArray,List.set_cons_zero,List.set_cons_succ])
    apply sched_run;(exact rfl);rfl;intro K hK;go_simp
    refine (HIH.out xl yl xA yA xc yc _ HSX.out (HXL.out.below (hT.out.b.trans (hbd.mono hT.out.b.size))) (HYL.out.below (hT.out.b.trans (hbd.mono hT.out.b.size))) HSL.out).mono ?_
    rintro e w2 ⟨rfl,hb⟩
    have HB2:=Ld (hbd.trans (hb.mono (show wc.heap.size ≤ _ from hbd.size)))
    clear hbd hb
    refine hK.out _ _ HB2.out (fun _ => ?_)
    clear hK K
    try simp only [Act.put,List.setIfInBounds_toArray,List.set_cons_zero,List.set_cons_succ]
    repeat (apply sched_take;(exact rfl);rfl;(intro W hW;go_simp;(try with_reducible rfl));simp only [Act.put,List.setIfInBounds_toArray,List.set_cons_zero,List.set_cons_succ])
    refine sched_done ?_
    go_wp2
    go_roundw
    case measure => simp [intOf];omega
    case rel =>
     exact ⟨k + 1,by omega,by go_num,Ld (hB.out.trans ((hT.out.b.mono hB.out.size).trans (HB2.out.mono (Nat.le_trans hB.out.size hT.out.b.size))))⟩
  ·go_wp2
   go_ret
   exact ⟨rfl,hB.out⟩
end
section
open Go.RowKit
set_option maxHeartbeats 1000000
set_option maxRecDepth 100000
structure SameR (a b : List (List ItemD)) : Prop where
 len : a.length = b.length
 hx : ∀ i (h1 : i < a.length) (h2 : i < b.length),SameL a[i] b[i]
theorem SameR.refl (a : List (List ItemD)) : SameR a a:=⟨rfl,fun _ _ _ => SameL.refl _⟩
theorem rowsD_at (R : List VI) (k : Nat) (h : k < R.length) : (rowsD R)[k]'(by rw [rowsD_len];exact h) = VI.dataL R[k].l:=by simp [rowsD]
theorem sameR_c [Inhabited Thr] (R S : List VI) (A B : Option Addr) (c d : Nat) (w : World) (hR : RdR w A c R) (hS : RdR w B d S) (hE : SameR (rowsD R) (rowsD S)) :
 Calls Tryz.prog 17 #[.slice A R.length c,.slice B S.length d] w fun e w' => e = .returned (.bool true) ∧ Below w.heap.size w w':=by
 have HR:=Ld hR
 have HS:=Ld hS
 have HE:=Ld hE
 have hlb:=hR.hb
 have HLN:=Ld (show R.length = S.length by have:=hE.len;rw [rowsD_len,rowsD_len] at this;exact this)
 rw [← HLN.out]
 have e0 : ((R.length : Int) != R.length) = false:=by simp
 clear hR hS hE
 go_enter Tryz.func17,Tryz.ntmps17
 go_wp2
 go_loopw [5] (fun i wr => ∃ (k : Nat),k ≤ R.length ∧ i = .int .i64 k ∧ Hid (Below w.heap.size w wr)) (fun i _ => R.length - (intOf i).toNat)
 case atStart => exact ⟨0,Nat.zero_le _,rfl,Ld (Below.refl _ _)⟩
 case round =>
  obtain ⟨k,hk,rfl,hB⟩:=hrel
  by_cases hlt : k < R.length
  ·have HLr:=Ld (HR.out.below hB.out)
   have HMr:=Ld (HS.out.below hB.out)
   have hltm : k < S.length:=by rw [← HLN.out];exact hlt
   obtain ⟨ab,ao,rfl⟩ : ∃ ab ao,A = some ⟨ab,ao,none⟩:=by obtain ⟨b,o,e,_⟩:=HLr.out.rd.2 (by omega);exact ⟨b,o,e⟩
   obtain ⟨mb,mo,rfl⟩ : ∃ ab ao,B = some ⟨ab,ao,none⟩:=by obtain ⟨b,o,e,_⟩:=HMr.out.rd.2 (by omega);exact ⟨b,o,e⟩
   have HIT:=Ld (fun W (h : Below wr.heap.size wr W) => row_at (HLr.out.below h).rd hlt)
   have HIU:=Ld (fun W (h : Below wr.heap.size wr W) => row_at (HMr.out.below h).rd hltm)
   have HX:=Ld (HLr.out.hx _ (List.getElem_mem hlt))
   have HY:=Ld (HMr.out.hx _ (List.getElem_mem hltm))
   have HEK:=Ld (show SameL (VI.dataL R[k].l) (VI.dataL S[k].l) by
    have:=HE.out.hx k (by rw [rowsD_len];exact hlt) (by rw [rowsD_len];exact hltm)
    rw [rowsD_at R k hlt,rowsD_at S k hltm] at this;exact this)
   obtain ⟨x,hx⟩ : ∃ x,R[k] = x:=⟨_,rfl⟩
   obtain ⟨y,hy⟩ : ∃ y,S[k] = y:=⟨_,rfl⟩
   simp only [hx] at HIT HX HEK
   simp only [hy] at HIU HY HEK
   clear hx hy hltm
   rcases x with ⟨xk,xb,xn,xf,xt,xA,xc,xl⟩
   rcases y with ⟨yk,yb,yn,yf,yt,yA,yc,yl⟩
   simp only [VI.A,VI.c,VI.l] at HIT HIU HEK
   have HXL:=Ld (show RdI wr xA xc xl from HX.out.list)
   have HYL:=Ld (show RdI wr yA yc yl from HY.out.list)
   go_wp2
   refine wp_region_sched (S:=fun W => Below wr.heap.size wr W) [(0,true),(1,true),(2,true),(3,true),(4,true),(5,true),(6,true),(7,true),(8,false),(9,true)] (by kernel_rfl) (by kernel_rfl) (by kernel_rfl) (fun _ _ d _ _ h => by cases d <;> exact h) (Below.refl _ _).drew ?_
   repeat (apply sched_take;(exact rfl);rfl;(intro W hW;have p0:=HIT.out W hW;have q0:=HIU.out W hW;go_simp;(try with_reducible rfl));simp only [Act.put,List.setIfInBounds_toArray,List.set_cons_zero,List.set_cons_succ])
   apply sched_run;(exact rfl);rfl;intro K hK;go_simp
   have hbd:=(Below.refl wr.heap.size wr).drew
   refine (same_c _ xl yl xA yA xc yc _ (Nat.le_refl _) (HXL.out.below hbd) (HYL.out.below hbd) HEK.out).mono ?_
   rintro e w1 ⟨rfl,hb⟩
   have HB1:=Ld (hbd.trans (hb.mono (show wr.heap.size ≤ _ from hbd.size)))
   clear hbd hb
   refine hK.out _ _ HB1.out (fun _ => ?_)
   clear hK K
   try simp only [Act.put,List.setIfInBounds_toArray,List.set_cons_zero,List.set_cons_succ]
   repeat (apply sched_take;(exact rfl);rfl;(intro W hW;go_simp;(try with_reducible rfl));simp only [Act.put,List.setIfInBounds_toArray,List.set_cons_zero,List.set_cons_succ])
   refine sched_done ?_
   go_wp2
   exact ⟨⟨k + 1,by omega,by go_num,Ld (hB.out.trans (HB1.out.mono hB.out.size))⟩,by simp [intOf];omega⟩
  ·go_wp2
   go_ret
   exact ⟨rfl,hB.out⟩
end
section
open Go.RowKit
set_option maxHeartbeats 1000000
set_option maxRecDepth 100000
structure InV where
 pg : Int
 wd : Int
 t : TabD
 A : Option Addr
 c : Nat
 q : QryV
 P : List (ByteArray × ByteArray)
 AP : Option Addr
 cP : Nat
 AR : Option Addr
 nR : Nat
 cR : Nat
 pf : ByteArray
def InV.val (x : InV) : Value:=.agg (#[.int .i64 x.pg,.int .i64 x.wd,.string x.t.name,.slice x.A x.t.cols.length x.c,.int .i64 x.t.keys] ++ x.q.cells ++ #[.slice x.AP x.P.length x.cP,.slice x.AR x.nR x.cR,.string x.pf])
structure RdX [Inhabited Thr] (w : World) (x : InV) : Prop where
 t : RdT w x.A x.c x.t
 q : RdQ w x.q
 p : RdP w x.AP x.cP x.P
theorem RdX.below [Inhabited Thr] {w w' : World} {x : InV} (h : RdX w x) (hb : Below w.heap.size w w') : RdX w' x:=⟨h.t.below hb,h.q.below hb,h.p.below hb⟩
def QryV.plain (q : QryV) : QryV:=⟨q.table,q.fr,q.tt,q.wh,[],false,0,0,⟨#[]⟩,q.AF,q.cF,q.AT,q.cT,q.AW,q.cW,none,0⟩
theorem RdQ.plain [Inhabited Thr] {w : World} {q : QryV} (h : RdQ w q) : RdQ w q.plain :=
 ⟨h.fr,h.tt,h.wh,h.wc,h.wb,h.wx,.none_,Nat.le_refl _,by show 0 * 16 ≤ 140737488355328;decide,(by intro x hx;simp [QryV.plain] at hx),h.nt,by show (0 : Nat) ≤ 140737488355328;decide,by show -9223372036854775808 ≤ (0 : Int) ∧ (0 : Int) ≤ 9223372036854775807;decide,by show (0 : Int) ≤ 0 ∧ (0 : Int) ≤ 255;decide⟩
end
end Go.Proofs.YtonjgedhmmnolaaGreatDoor
