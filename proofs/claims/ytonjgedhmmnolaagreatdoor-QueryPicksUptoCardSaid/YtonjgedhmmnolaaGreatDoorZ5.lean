import Derived.Test.YtonjgedhmmnolaaGreatDoorZ4
import Derived.Laws.IdiomStrings
import Derived.Laws.BytesArg
namespace Go.Proofs.YtonjgedhmmnolaaGreatDoor
section
open Go.RowKit
set_option maxHeartbeats 1000000
set_option maxRecDepth 100000
theorem run_back {w : World} {B : Nat} {v : Value} {bs : List UInt8} (h : OwnB w B v bs) : (convert 35 9 v).run Tryz.prog w = .ok (.string ⟨bs.toArray⟩) w:=by
 rcases h.2 with ⟨rfl,h0⟩ | ⟨g,cap,cur,rfl,_⟩
 ·have : bs = []:=List.eq_nil_of_length_eq_zero (by simpa using h0)
  subst this
  rw [run_convert_bytes_nil w 35 5 Tryz.underlying35 Tryz.underlying5 0 0 9 Tryz.underlying9]
  rfl
 ·refine run_convert_bytes_back w 35 9 5 ⟨g,0,none⟩ cap bs Tryz.underlying35 Tryz.underlying5 Tryz.underlying9 ?_
  intro j hj
  refine h.cells (g:=g) rfl j _ ?_
  simp [bts,List.getElem?_map,List.getElem?_eq_getElem hj]
theorem run_back_rd {w : World} {A : Option Addr} {bs : List UInt8} {c : Nat} (h : Rd w 1 A bs.length (bts bs)) : (convert 35 9 (.slice A bs.length c)).run Tryz.prog w = .ok (.string ⟨bs.toArray⟩) w:=by
 by_cases h0 : bs = []
 ·subst h0
  cases A with
  | none =>
    rw [run_convert_bytes_nil w 35 5 Tryz.underlying35 Tryz.underlying5 _ c 9 Tryz.underlying9]
    rfl
  | some a => exact run_convert_bytes_back w 35 9 5 a c [] Tryz.underlying35 Tryz.underlying5 Tryz.underlying9 (fun j hj => by simp at hj)
 ·obtain ⟨b,o,rfl,hc⟩:=h.2 (List.length_pos_iff.2 h0)
  refine run_convert_bytes_back w 35 9 5 ⟨b,o,none⟩ c bs Tryz.underlying35 Tryz.underlying5 Tryz.underlying9 ?_
  intro j hj
  have : (⟨b,o,none⟩ : Addr).add j = ⟨b,o + j,none⟩:=by unfold Addr.add;split <;> simp_all
  rw [this]
  refine hc j _ ?_
  simp [bts,List.getElem?_map,List.getElem?_eq_getElem hj]
def packE (l : List ItemD) : Value:=if chkL l = 0 then .tuple #[.string ⟨(packL l).toArray⟩,.int .i64 0] else .tuple #[.string ⟨#[]⟩,.int .i64 (chkL l)]
theorem Pack_c [Inhabited Thr] (A : Option Addr) (c : Nat) (l : List VI) (w : World) (hR : RdI w A c l) (hcell : ∃ m,w.cell? ⟨1,0,none⟩ = some (.int .i64 m)) :
 Calls Tryz.prog 48 #[.slice A l.length c] w fun e w' => e = .returned (packE (VI.dataL l)) ∧ Below w.heap.size w w':=by
 have HR:=Ld hR
 have HC:=Ld hcell
 have hn : l.length * 64 ≤ 140737488355328:=hR.hb
 clear hR hcell
 go_enter Tryz.func48,Tryz.ntmps48
 go_wp2_with (first
  | (go_at_call 29;go_must (refine (Check_c A c l _ HR.out).mono ?_;rintro e w1 ⟨rfl,hb1⟩;have HB1:=Ld hb1;clear hb1))
  | (go_at_call 84;go_must (have H0:=Ld (chk_ok l (int_zero ‹((chkL (VI.dataL l) : Int) != 0) = false›));refine (lay_c w HC.out w.heap.size (Nat.le_refl _) _ l A c _ [] w1 (Nat.le_refl _) HR.out H0.out.1 (Ld H0.out.2.1) HB1.out HB1.out.size (OwnB.nil _ _) (Ld (by have:=H0.out.2.1;simp only [List.length_nil];omega))).mono ?_;rintro e w2 ⟨v2,rfl,hA2⟩;have HA2:=Ld hA2;rw [List.nil_append] at hA2;have hcv:=run_back hA2.own;clear hA2)))
 ·rename_i hne
  have hne : chkL (VI.dataL l) ≠ 0:=fun h => by rw [h] at hne;simp at hne
  go_ret2
  exact ⟨by rw [packE,if_neg hne];rfl,HB1.out⟩
 ·have h0:=int_zero ‹((chkL (VI.dataL l) : Int) != 0) = false›
  go_ret2
  exact ⟨by rw [packE,if_pos h0];rfl,HB1.out.trans (HA2.out.below HB1.out.size (fun k hk => by cases hk))⟩
def hiB (bs : List UInt8) : List UInt8 :=
 match bs.reverse.dropWhile (· == 255) with
 | [] => []
 | c :: r => ((c + 1) :: r).reverse
theorem hiB_app (a : List UInt8) (c : UInt8) (n : Nat) (h : c ≠ 255) : hiB (a ++ c :: List.replicate n 255) = a ++ [c + 1]:=by
 unfold hiB
 have e : (a ++ c :: List.replicate n 255).reverse.dropWhile (· == 255) = c :: a.reverse:=by
  rw [List.reverse_append,List.reverse_cons,List.reverse_replicate,List.append_assoc]
  induction n with
  | zero => simp [List.dropWhile,h]
  | succ n ih => rw [List.replicate_succ,List.cons_append];simpa using ih
 rw [e]
 simp
def underE (l : List ItemD) : Value:=if chkL l = 0 then .tuple #[.string ⟨(packL l).toArray⟩,.string ⟨(hiB (packL l)).toArray⟩,.int .i64 0] else .tuple #[.string ⟨#[]⟩,.string ⟨#[]⟩,.int .i64 (chkL l)]
theorem pack_head (l : List VI) (h : okL (VI.dataL l) = true) (hl : l ≠ []) : ∃ c r,packL (VI.dataL l) = c :: r ∧ c ≠ 255:=by
 cases l with
 | nil => exact absurd rfl hl
 | cons x l =>
   rw [VI.dataL,okL_cons,okI_eq,Bool.and_eq_true,Bool.and_eq_true] at h
   have hm:=h.1.1
   have hkk : 1 ≤ x.k ∧ x.k ≤ 6:=by
    simp only [mayN,Bool.and_eq_true,decide_eq_true_eq] at hm
    exact hm.1
   have hn:=needN_le x.n.natAbs
   rw [VI.dataL,packL_cons,packI_eq]
   have hk : x.k = 1 ∨ x.k = 2 ∨ x.k = 3 ∨ x.k = 4 ∨ x.k = 5 ∨ x.k = 6:=by omega
   have hnn : ∀ m : Nat,m < 255 → UInt8.ofNat m ≠ 255:=fun m hm e => by
    have:=congrArg UInt8.toNat e
    rw [UInt8.toNat_ofNat'] at this
    simp at this;omega
   rcases hk with h | h | h | h | h | h
   ·exact ⟨1,packL (VI.dataL l),by simp [h],by decide⟩
   ·refine ⟨_,packL (VI.dataL l),by simp only [h];rfl,?_⟩
    split <;> decide
   ·simp only [h]
    by_cases hn0 : x.n < 0
    ·exact ⟨_,_,by simp only [hn0];rfl,hnn _ (by have:=hn;omega)⟩
    ·exact ⟨_,_,by simp only [hn0];rfl,hnn _ (by have:=hn;omega)⟩
   ·exact ⟨32,_,by simp [h];rfl,by decide⟩
   ·exact ⟨36,_,by simp [h];rfl,by decide⟩
   ·exact ⟨40,_,by simp [h];rfl,by decide⟩
theorem u8_255 {c : UInt8} (h : ((c.toNat : Int) == 255) = true) : c = 255:=by
 rw [beq_iff_eq] at h
 exact UInt8.toNat_inj.1 (by rw [show (255 : UInt8).toNat = 255 from rfl];omega)
theorem row_cell {W : World} {g : Nat} {cs : Array Value} {t : TypeId} {fr : Nat × Nat} (h : W.heap[g]? = some (.cells cs t fr)) (j : Nat) : W.cell? ⟨g,j,none⟩ = cs[j]?:=by
 unfold World.cell?
 simp [h]
theorem row_frozen {W : World} {g : Nat} {cs : Array Value} {t : TypeId} {a b : Nat} (h : W.heap[g]? = some (.cells cs t (a,b))) (j : Nat) (hj : j < a) : W.frozen? ⟨g,j,none⟩ = false:=by
 unfold World.frozen?
 simp [h]
 omega
def lenOf : Value → Nat
 | .slice _ n _ => n
 | _ => 0
theorem Under_c [Inhabited Thr] (A : Option Addr) (c : Nat) (l : List VI) (w : World) (hR : RdI w A c l) (hcell : ∃ m,w.cell? ⟨1,0,none⟩ = some (.int .i64 m)) :
 Calls Tryz.prog 52 #[.slice A l.length c] w fun e w' => e = .returned (underE (VI.dataL l)) ∧ Below w.heap.size w w':=by
 have HR:=Ld hR
 have HC:=Ld hcell
 clear hR hcell
 go_enter Tryz.func52,Tryz.ntmps52
 by_cases h0 : chkL (VI.dataL l) = 0
 ·have HPE:=Ld (show packE (VI.dataL l) = .tuple #[.string ⟨(packL (VI.dataL l)).toArray⟩,.int .i64 0] by rw [packE,if_pos h0])
  have HUE:=Ld (show underE (VI.dataL l) = .tuple #[.string ⟨(packL (VI.dataL l)).toArray⟩,.string ⟨(hiB (packL (VI.dataL l))).toArray⟩,.int .i64 0] by rw [underE,if_pos h0])
  have HPH:=Ld (fun hl => pack_head l (chk_ok l h0).1 hl)
  have HPN:=Ld (show l = [] → packL (VI.dataL l) = [] by rintro rfl;rw [VI.dataL,packL_nil])
  have HPL:=Ld (show (packL (VI.dataL l)).length ≤ 4096 by rw [pack_len _ l (Nat.le_refl _) (chk_ok l h0).1];exact (chk_ok l h0).2.1)
  rw [HUE.out]
  generalize packL (VI.dataL l) = P at *
  have hbs:=fun (w : World) (s : ByteArray) => run_bytes_of_string (P:=Tryz.prog) w 9 35 5 s Tryz.underlying9 Tryz.underlying35 Tryz.underlying5
  go_wp2_with (first
   | (go_at_call 48;go_must (refine (Pack_c A c l _ HR.out HC.out).mono ?_;rintro e w1 ⟨rfl,hb1⟩;rw [HPE.out];have HB1:=Ld hb1;clear hb1)))
  ·go_ret3
   have hp : P = []:=by simpa using ‹P.isEmpty = true›
   subst hp
   exact ⟨rfl,HB1.out⟩
  ·have hp : P ≠ []:=by have:=‹P.isEmpty = false›;intro h;rw [h] at this;simp at this
   have hlne : l ≠ []:=fun h => hp (HPN.out h)
   obtain ⟨c0,r0,hP,hc0⟩:=HPH.out hlne
   have HSZ:=Ld (show (⟨P.toArray⟩ : ByteArray).size = P.length by simp [ByteArray.size])
   have HCAP:=Ld (grownCap_ge w1 P.length 0 5)
   generalize grownCap w1 P.length 0 5 = cap at *
   have HCEL:=Ld (fun j (hj : j < P.length) => show (bytesRow ⟨P.toArray⟩ cap)[j]? = some (.int .u8 (P[j].toNat : Int)) from bytesRow_at ⟨P.toArray⟩ cap j hj)
   have HCS:=Ld (show (bytesRow ⟨P.toArray⟩ cap).size = cap by have:=HCAP.out;simp [bytesRow,ByteArray.size];omega)
   generalize bytesRow ⟨P.toArray⟩ cap = C at *
   have HROW:=Ld (show (w1.alloc (.cells C 5 (C.size,C.size + 1))).drew.heap[w1.heap.size]? = some (.cells C 5 (C.size,C.size + 1)) from heap_alloc_new w1 _)
   have HBW:=Ld (show Below w1.heap.size w1 (w1.alloc (.cells C 5 (C.size,C.size + 1))).drew from ((Below.refl _ _).alloc (Nat.le_refl _) _).drew)
   generalize (w1.alloc (.cells C 5 (C.size,C.size + 1))).drew = W at *
   have hgW : w1.heap.size < W.heap.size:=(Array.getElem?_eq_some_iff.1 HROW.out).1
   have hplen : P.length ≤ 4096:=HPL.out
   have HP0:=Ld hP
   clear hP hbs hlne hp
   go_loopw [5] (fun b wr => ∃ n : Nat,0 < n ∧ n ≤ P.length ∧ b = .slice (some ⟨w1.heap.size,0,none⟩) n cap ∧ Hid (P = P.take n ++ List.replicate (P.length - n) 255) ∧ wr = W) (fun b _ => lenOf b)
   case atStart => exact ⟨P.length,by rw [HP0.out];simp,Nat.le_refl _,rfl,Ld (by simp),rfl⟩
   case round =>
    obtain ⟨n,hn0,hnl,rfl,hrep,hwr⟩:=hrel
    subst wr
    obtain ⟨m,rfl⟩ : ∃ m,n = m + 1:=⟨n - 1,by omega⟩
    have q0 : W.cell? ⟨w1.heap.size,m,none⟩ = some (.int .u8 (P[m].toNat : Int)):=(row_cell HROW.out m).trans (HCEL.out m (by omega))
    have f0 : W.frozen? ⟨w1.heap.size,m,none⟩ = false:=row_frozen HROW.out m (by have:=HCS.out;have:=HCAP.out;omega)
    have hmc : m ≤ cap:=by have:=HCAP.out;omega
    go_wp2
    ·have h255:=‹((P[m].toNat : Int) == 255) = true›
     have hm0 : 0 < m:=by
      rcases Nat.eq_zero_or_pos m with e | e
      ·subst e
       exfalso
       have:=HP0.out
       subst this
       exact hc0 (u8_255 (by simpa using h255))
      ·exact e
     refine ⟨⟨m,hm0,by omega,rfl,?_,by trivial⟩,by simp [lenOf]⟩
     have:=hrep.out
     rw [← List.take_append_getElem (show m < P.length by omega),u8_255 h255,List.append_assoc] at this
     refine Ld (this.trans ?_)
     rw [show P.length - m = (P.length - (m + 1)) + 1 by omega,List.replicate_succ]
     rfl
    ·have hne:=‹((P[m].toNat : Int) == 255) = false›
     have hne' : P[m] ≠ 255:=fun e => by rw [e] at hne;simp at hne
     have hhi : hiB P = P.take m ++ [P[m] + 1]:=by
      have:=hrep.out
      rw [← List.take_append_getElem (show m < P.length by omega),List.append_assoc] at this
      conv => lhs;rw [this]
      exact hiB_app _ _ _ hne'
     have hlen : (hiB P).length = m + 1:=by rw [hhi,List.length_append,List.length_take];simp;omega
     have hval : (((P[m].toNat : Int) + 1) % 256) = ((P[m] + 1).toNat : Int):=by rw [UInt8.toNat_add];simp
     rw [hval]
     have HRD:=Ld (show Rd (W.setCell ⟨w1.heap.size,m,none⟩ (.int .u8 ((P[m] + 1).toNat : Int))) 1 (some ⟨w1.heap.size,0,none⟩) (hiB P).length (bts (hiB P)) from
      ⟨by rw [bts_len];simp,fun _ => ⟨_,0,rfl,fun j u hu => by
        rw [Nat.zero_add]
        have hj : j < m + 1:=by rw [← hlen,← bts_len];exact (List.getElem?_eq_some_iff.1 hu).1
        by_cases e : j = m
        ·subst e
         rw [World.cell?_setCell_same (h:=q0)]
         rw [bts,List.getElem?_map,hhi,List.getElem?_append_right (by simp;omega)] at hu
         simp [List.length_take,Nat.min_eq_left (show j ≤ P.length by omega)] at hu
         rw [← hu,hval]
        ·have hj' : j < m:=by omega
         rw [World.cell?_setCell_other (h:=by intro h;cases h;exact e rfl),row_cell HROW.out j,HCEL.out j (by omega)]
         rw [bts,List.getElem?_map,hhi,List.getElem?_append_left (by simp;omega),List.getElem?_take_of_lt hj',List.getElem?_eq_getElem (by omega)] at hu
         simpa using hu⟩⟩)
     have HBS:=Ld (HBW.out.setCell (p:=⟨w1.heap.size,m,none⟩) (Nat.le_refl _) (.int .u8 ((P[m] + 1).toNat : Int)))
     rw [← hlen]
     generalize W.setCell ⟨w1.heap.size,m,none⟩ (.int .u8 ((P[m] + 1).toNat : Int)) = W2 at *
     clear hval hhi hlen hne hne' q0 f0
     refine wp_region_sched (S:=fun W => Rd W 1 (some ⟨w1.heap.size,0,none⟩) (hiB P).length (bts (hiB P))) [(0,true),(1,true),(2,true),(3,true),(4,true),(5,true)] (by kernel_rfl) (by kernel_rfl) (by kernel_rfl) (fun _ _ d _ _ h => by cases d <;> exact h) HRD.out ?_
     iterate 6 (apply sched_take;(exact rfl);rfl;(intro W hW;have hcv:=run_back_rd (c:=cap) (show Rd W 1 (some ⟨w1.heap.size,0,none⟩) (hiB P).length (bts (hiB P)) from hW);go_simp;(try with_reducible rfl));simp only [Act.put,List.setIfInBounds_toArray,List.set_cons_zero,List.set_cons_succ])
     refine sched_done ?_
     go_wp2
     go_ret3
     exact ⟨rfl,HB1.out.trans ((HBS.out.mono HB1.out.size).drew)⟩
 ·have HPE:=Ld (show packE (VI.dataL l) = .tuple #[.string ⟨#[]⟩,.int .i64 (chkL (VI.dataL l))] by rw [packE,if_neg h0])
  go_wp2_with (first
   | (go_at_call 48;go_must (refine (Pack_c A c l _ HR.out HC.out).mono ?_;rintro e w1 ⟨rfl,hb1⟩;rw [HPE.out];have HB1:=Ld hb1;clear hb1)))
  ·go_ret3
   exact ⟨by rw [underE,if_neg h0];rfl,HB1.out⟩
  all_goals (exfalso;exact h0 (int_zero ‹((chkL (VI.dataL l) : Int) != 0) = false›))
end
section
open Go.RowKit
set_option maxHeartbeats 1000000
set_option maxRecDepth 100000
inductive BlkV (P : Nat → Prop) : VI → Prop
 | mk (x : VI) (h : 0 < x.l.length → ∀ b o,x.A = some ⟨b,o,none⟩ → P b) (hx : ∀ y ∈ x.l,BlkV P y) : BlkV P x
section
variable {P Q : Nat → Prop} {x : VI} {w w' : World} {S : Nat → Prop}
theorem BlkV.top (h : BlkV P x) : 0 < x.l.length → ∀ b o,x.A = some ⟨b,o,none⟩ → P b:=by cases h;assumption
theorem BlkV.list (h : BlkV P x) : ∀ y ∈ x.l,BlkV P y:=by cases h;assumption
theorem BlkV.mono (h : BlkV P x) (hi : ∀ k,P k → Q k) : BlkV Q x:=by
 induction h with
 | mk x h hx ih => exact .mk x (fun h0 b o e => hi _ (h h0 b o e)) ih
theorem BlkV.and (h : BlkV P x) (k : BlkV Q x) : BlkV (fun b => P b ∧ Q b) x:=by
 induction h with
 | mk x h hx ih => exact .mk x (fun h0 b o e => ⟨h h0 b o e,k.top h0 b o e⟩) (fun y hy => ih y hy (k.list y hy))
theorem Rd.block {size n : Nat} {b o : Nat} {xs : List Value} (h : Rd w size (some ⟨b,o,none⟩) n xs) (hn : 0 < n) (hs : 0 < size) : b < w.heap.size:=by
 obtain ⟨b',o',e,hc⟩:=h.2 hn
 cases e
 have h1:=h.1
 obtain ⟨u,hu⟩ : ∃ u,xs[0]? = some u:=⟨xs[0]'(by rw [h1];exact Nat.mul_pos hn hs),List.getElem?_eq_getElem _⟩
 exact World.block_lt_of_cell? w _ (hc 0 u hu)
theorem RdV.blk [Inhabited Thr] (h : RdV w x) : BlkV (fun k => k < w.heap.size) x:=by
 induction h with
 | mk x hl hc hb ht hk hf hn hx hw ih =>
   exact .mk x (fun h0 b o e => by rw [e] at hl;exact hl.block h0 (by decide)) ih
theorem Rd.kept {size n : Nat} {A : Option Addr} {xs : List Value} (h : Rd w size A n xs) (hk : Kept S w w') (hs : 0 < n → ∀ b o,A = some ⟨b,o,none⟩ → ¬ S b) : Rd w' size A n xs :=
 ⟨h.1,fun hn => by
   obtain ⟨b,o,e,hc⟩:=h.2 hn
   exact ⟨b,o,e,fun j u hu => by
    have h1:=hc j u hu
    have h2:=World.block_lt_of_cell? w _ h1
    exact (World.cell?_of_block (hk.block b h2 (hs hn b o e))).trans h1⟩⟩
theorem RdV.kept [Inhabited Thr] (h : RdV w x) (hk : Kept S w w') (hb : BlkV (fun k => ¬ S k) x) : RdV w' x:=by
 induction h with
 | mk x hl hc hbb ht hkk hf hn hx hw ih =>
   exact .mk x (hl.kept hk hb.top) hc hbb ht hkk hf hn (fun y hy => ih y hy (hb.list y hy)) (fun h0 b o e h => (hw h0 b o e h).block (hk.block b (hw h0 b o e h).lt (hb.top h0 b o e)))
theorem RdI.kept [Inhabited Thr] {A : Option Addr} {c : Nat} {l : List VI} (h : RdI w A c l) (hk : Kept S w w') (h0 : 0 < l.length → ∀ b o,A = some ⟨b,o,none⟩ → ¬ S b) (hb : ∀ y ∈ l,BlkV (fun k => ¬ S k) y) : RdI w' A c l :=
 ⟨h.rd.kept hk h0,h.hc,h.hb,fun y hy => (h.hx y hy).kept hk (hb y hy)⟩
end
structure OwnI [Inhabited Thr] (w : World) (B : Nat) (v : Value) (l : List VI) : Prop where
 own : w.ownsRow B 54 6 v l.length (icells l)
 rd : ∀ x ∈ l,RdV w x
 ne : ∀ x ∈ l,BlkV (fun k => v.ownBlock ≠ some k) x
section
variable {w w' : World} {B : Nat} {v : Value} {l ys : List VI} {S : Nat → Prop}
theorem OwnI.nil [Inhabited Thr] (w : World) (B : Nat) : OwnI w B (.slice none 0 0) []:=⟨World.ownsRow_nil _ _ _ _,by simp,by simp⟩
theorem OwnI.below [Inhabited Thr] (h : OwnI w B v l) (hb : Below w.heap.size w w') : OwnI w' B v l:=⟨own_below h.own hb,fun x hx => (h.rd x hx).grow hb,h.ne⟩
theorem OwnI.kept [Inhabited Thr] (h : OwnI w B v l) (hk : Kept S w w') (hs : ∀ k,v.ownBlock = some k → ¬ S k) (hb : ∀ x ∈ l,BlkV (fun k => ¬ S k) x) : OwnI w' B v l :=
 ⟨own_kept h.own hk hs,fun x hx => (h.rd x hx).kept hk (hb x hx),h.ne⟩
theorem icells_one (l : List VI) : ∀ u ∈ icells l,u.oneCell' = true:=by
 intro u hu
 simp only [icells,List.mem_flatMap,VI.cells,List.mem_cons,List.not_mem_nil,or_false] at hu
 obtain ⟨x,_,h⟩:=hu
 rcases h with rfl | rfl | rfl | rfl | rfl | rfl <;> rfl
theorem OwnI.app [Inhabited Thr] {v' : Value} {m : Nat} (h : OwnI w B v l) (hm : m = ys.length) (hy : ∀ y ∈ ys,RdV w y) (hyn : ∀ y ∈ ys,BlkV (fun k => v.ownBlock ≠ some k) y) (h2 : w'.ownsRow B 54 6 v' (l.length + m) (icells l ++ icells ys))
 (h3 : w.grownBy w' v.ownBlock) (h4 : v'.ownBlock = v.ownBlock ∨ v'.ownBlock = some w.heap.size) : OwnI w' B v' (l ++ ys):=by
 subst hm
 have hk : Kept (fun k => v.ownBlock = some k) w w':=(Kept.refl _ w).grown h3 (fun k hk _ => hk)
 have hall : ∀ x ∈ l ++ ys,RdV w x ∧ BlkV (fun k => v.ownBlock ≠ some k) x:=by
  intro x hx
  rcases List.mem_append.1 hx with hx | hx
  ·exact ⟨h.rd x hx,h.ne x hx⟩
  ·exact ⟨hy x hx,hyn x hx⟩
 refine ⟨by rw [List.length_append,icells_append];exact h2,fun x hx => (hall x hx).1.kept hk (hall x hx).2,fun x hx => ?_⟩
 have hb:=(hall x hx).2.and (hall x hx).1.blk
 refine hb.mono fun k hk e => ?_
 rcases h4 with h4 | h4
 ·exact hk.1 (h4 ▸ e)
 ·rw [h4] at e
  have:=Option.some.inj e
  omega
theorem OwnI.rdi [Inhabited Thr] (h : OwnI w B v l) (hl : l.length * 64 ≤ 140737488355328) : ∃ A c,v = .slice A l.length c ∧ RdI w A c l:=by
 have h0:=h.own
 rcases h0.2 with ⟨rfl,h1⟩ | ⟨g,cap,cur,rfl,_⟩
 ·have hl0 : l = []:=List.eq_nil_of_length_eq_zero (by simpa using h1)
  subst hl0
  exact ⟨none,0,rfl,.none_,Nat.le_refl _,by simp,by simp⟩
 ·have:=own_rd' h.own
  exact ⟨_,_,rfl,this.2,this.1,hl,h.rd⟩
end
end
section
open Go.RowKit
set_option maxHeartbeats 1000000
set_option maxRecDepth 100000
section
variable {wr : World} {B : Nat} {v : Value} {l ys : List VI}
theorem wp_items [Inhabited Thr] {o : Oper} {a : Act} {K : Act → World → Prop} {Q : Exit → Act → World → Prop} (s x : Operand)
 (ho : o.op = .call { callee:=.builtin .append,args:=#[s,x],argTypes:=#[28,28] }) (hO : OwnI wr B v l) (hs : a.eval s = v)
 {A : Option Addr} {m c : Nat} (hx : a.eval x = .slice A m c) (hr : Rd wr 6 A m (icells ys)) (hm : m = ys.length) (hy : ∀ y ∈ ys,RdV wr y) (hyn : ∀ y ∈ ys,BlkV (fun k => v.ownBlock ≠ some k) y)
 (hl : (l.length + m) * 64 ≤ 140737488355328) (hB : B ≤ wr.heap.size)
 (h : ∀ v' w',OwnI w' B v' (l ++ ys) → Kept (fun k => v.ownBlock = some k) wr w' → (v'.ownBlock = v.ownBlock ∨ v'.ownBlock = some wr.heap.size) → K (a.put o.dst v') w') : o.wp Tryz.prog a wr K Q:=by
 obtain ⟨i0,hi,hz0,hz1,hz2⟩:=info_parts infoI
 refine wp_append_rd s x 28 ho B 54 Tryz.underlying28 hi hz0 hz1 hz2 rfl (by decide) hs hO.own hx hr (icells_one _) hl (by decide) hB ?_
 intro v' w' h2 h3 h4
 exact h v' w' (hO.app hm hy hyn h2 h3 h4.1) ((Kept.refl _ wr).grown h3 (fun k hk _ => hk)) h4.1
theorem wpList_items [Inhabited Thr] {ops : Array Oper} {rest : List Oper} {o : Oper} {a : Act} {Q : Exit → Act → World → Prop} (hgd : o.guard = none) (s x : Operand)
 (ho : o.op = .call { callee:=.builtin .append,args:=#[s,x],argTypes:=#[28,28] }) (hO : OwnI wr B v l) (hs : a.eval s = v)
 {A : Option Addr} {m c : Nat} (hx : a.eval x = .slice A m c) (hr : Rd wr 6 A m (icells ys)) (hm : m = ys.length) (hy : ∀ y ∈ ys,RdV wr y) (hyn : ∀ y ∈ ys,BlkV (fun k => v.ownBlock ≠ some k) y)
 (hl : (l.length + m) * 64 ≤ 140737488355328) (hB : B ≤ wr.heap.size)
 (h : ∀ v' w',OwnI w' B v' (l ++ ys) → Kept (fun k => v.ownBlock = some k) wr w' → (v'.ownBlock = v.ownBlock ∨ v'.ownBlock = some wr.heap.size) → wpList Tryz.prog ops Q rest (a.put o.dst v') w') : wpList Tryz.prog ops Q (o :: rest) a wr :=
 wpList_plain hgd fun _ hK => wp_items s x ho hO hs hx hr hm hy hyn hl hB fun v' w' h1 h2 h3 => hK _ _ (h v' w' h1 h2 h3)
theorem rd_items (w : World) (cs : Array Value) (ys : List VI) (hcs : cs = (icells ys).toArray) {g m : Nat} (hg : g = w.heap.size) (hm : m = ys.length) : Rd (w.alloc (.cells cs 54)) 6 (some ⟨g,0,none⟩) m (icells ys):=by
 subst hcs hg hm
 refine ⟨icells_len ys,fun _ => ⟨w.heap.size,0,rfl,fun j u hu => ?_⟩⟩
 have hrow : (w.alloc (.cells (icells ys).toArray 54)).heap[w.heap.size]? = some (.cells (icells ys).toArray 54 (0,0)):=one_row (Below.refl _ _)
 rw [Nat.zero_add]
 exact cell_of_row _ _ j _ _ _ hrow |>.trans (by simpa using hu)
end
def numB (l : List UInt8) : Nat:=l.foldl (fun u c => 256 * u + c.toNat) 0
theorem numB_snoc (l : List UInt8) (c : UInt8) : numB (l ++ [c]) = 256 * numB l + c.toNat:=by simp [numB]
theorem numB_lt (l : List UInt8) : numB l < 256 ^ l.length:=by
 suffices ∀ (l : List UInt8) (u n : Nat),u < 256 ^ n → l.foldl (fun u c => 256 * u + c.toNat) u < 256 ^ (n + l.length) by simpa [numB] using this l 0 0 (by decide)
 intro l
 induction l with
 | nil => intro u n h;simpa using h
 | cons c l ih =>
   intro u n h
   rw [List.foldl_cons,List.length_cons,show n + (l.length + 1) = (n + 1) + l.length by omega]
   refine ih _ _ ?_
   have:=c.toNat_lt
   rw [Nat.pow_succ]
   omega
def valW (n : Int) (u : Nat) : Int:=if n < 0 then IntKind.i64.wrap ((u : Int) + 1 - 256 ^ n.natAbs) else IntKind.i64.wrap u
def parW (n : Int) (bs : List UInt8) : Option (Int × List UInt8) :=
 if bs.length < n.natAbs then none
 else if needN (valW n (numB (bs.take n.natAbs))).natAbs = n.natAbs ∧ (n < 0 ↔ valW n (numB (bs.take n.natAbs)) < 0) then some (valW n (numB (bs.take n.natAbs)),bs.drop n.natAbs) else none
def parF (bs : List UInt8) : Option (Nat × List UInt8) :=
 if bs.length < 8 then none
 else
  let u:=numB (bs.take 8)
  let f:=if 9223372036854775808 ≤ u then u - 9223372036854775808 else 18446744073709551615 - u
  if isNan f = false ∨ f = 9221120237041090560 then some (f,bs.drop 8) else none
def parT : List UInt8 → Option (List UInt8 × List UInt8)
 | [] => none
 | c :: r => if c ≠ 0 then (parT r).map fun p => (c :: p.1,p.2) else
   match r with
   | [] => none
   | d :: r => if d = 255 then (parT r).map fun p => (0 :: p.1,p.2) else if d = 1 then some ([],r) else none
mutual
def parI : Nat → Nat → Nat → List UInt8 → Option (ItemD × List UInt8 × Nat)
 | 0,_,_,_ => none
 | fuel + 1,d,m,bs =>
   match bs with
   | [] => none
   | t :: r =>
     if m = 64 then none
     else if t = 1 then some (.mk 1 false 0 0 ⟨#[]⟩ [],r,m + 1)
     else if t = 2 ∨ t = 3 then some (.mk 2 (t == 3) 0 0 ⟨#[]⟩ [],r,m + 1)
     else if 12 ≤ t.toNat ∧ t.toNat ≤ 28 then (parW ((t.toNat : Int) - 20) r).map fun p => (.mk 3 false p.1 0 ⟨#[]⟩ [],p.2,m + 1)
     else if t = 32 then (parF r).map fun p => (.mk 4 false 0 p.1 ⟨#[]⟩ [],p.2,m + 1)
     else if t = 36 then (parT r).map fun p => (.mk 5 false 0 0 ⟨p.1.toArray⟩ [],p.2,m + 1)
     else if t = 40 ∧ d < 8 then
      match parL fuel (d + 1) (m + 1) r with
      | some (l,_ :: r,m) => some (.mk 6 false 0 0 ⟨#[]⟩ l,r,m)
      | _ => none
     else none
def parL : Nat → Nat → Nat → List UInt8 → Option (List ItemD × List UInt8 × Nat)
 | 0,_,_,_ => none
 | fuel + 1,d,m,bs =>
   match bs with
   | [] => some ([],[],m)
   | 0 :: r => some ([],0 :: r,m)
   | bs => match parI fuel d m bs with
     | none => none
     | some (x,r,m) => (parL fuel d m r).map fun p => (x :: p.1,p.2)
end
def parTop : Nat → Nat → List UInt8 → Option (List ItemD)
 | 0,_,_ => none
 | fuel + 1,m,bs =>
   match bs with
   | [] => some []
   | bs => match parI (2 * bs.length + 1) 0 m bs with
     | none => none
     | some (x,r,m) => (parTop fuel m r).map (x :: ·)
def unpB (bs : List UInt8) : Option (List ItemD):=if 4096 < bs.length then none else parTop (bs.length + 1) 0 bs
def unpErr (bs : List UInt8) : Nat:=if 4096 < bs.length then 4 else if (unpB bs).isSome then 0 else 33
end
end Go.Proofs.YtonjgedhmmnolaaGreatDoor
