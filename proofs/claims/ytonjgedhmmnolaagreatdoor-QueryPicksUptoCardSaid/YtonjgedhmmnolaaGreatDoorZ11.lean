import Derived.Test.YtonjgedhmmnolaaGreatDoorZ10
import Derived.Laws.FloatArith
import Derived.Shelf.Spec.BitsCarry
import Derived.Shelf.SlicesE.Reverse
namespace Go.Proofs.YtonjgedhmmnolaaGreatDoor
section
open Go.RowKit
set_option maxHeartbeats 1000000
set_option maxRecDepth 100000
def holdsP (kind o : Int) : Bool :=
 if kind = 1 then decide (o = 0) else if kind = 2 then decide (o ≠ 0) else if kind = 4 then decide (o ≤ 0) else if kind = 3 then decide (o < 0) else if kind = 6 then decide (0 ≤ o) else if kind = 5 then decide (0 < o) else false
theorem holds_c (xc : ByteArray) (xk ik : Int) (ib : Bool) (iN : Int) (iF : Nat) (it : ByteArray) (iA : Option Addr) (n ic : Nat) (o : Int) (w : World) :
 Calls Tryz.prog 68 #[.agg #[.string xc,.int .u8 xk,.int .u8 ik,.bool ib,.int .i64 iN,.float .f64 iF,.string it,.slice iA n ic],.int .i64 o] w fun e w' => e = .returned (.bool (holdsP xk o)) ∧ Below w.heap.size w w':=by
 have HK:=Ld (show xk = 1 ∨ xk = 2 ∨ xk = 4 ∨ xk = 3 ∨ xk = 6 ∨ xk = 5 ∨ (xk ≠ 1 ∧ xk ≠ 2 ∧ xk ≠ 4 ∧ xk ≠ 3 ∧ xk ≠ 6 ∧ xk ≠ 5) by omega)
 have HO:=Ld (show o < 0 ∨ o = 0 ∨ 0 < o by omega)
 rcases HK.out with rfl | rfl | rfl | rfl | rfl | rfl | ⟨k1,k2,k4,k3,k6,k5⟩
 all_goals clear HK
 all_goals rcases HO.out with h | h | h
 all_goals clear HO
 ·have HV:=Ld (show holdsP 1 o = false by simp [holdsP];omega)
  have e0 : (o == 0) = false:=by simp;omega
  have e1 : o < 0:=h
  have e2 : ¬ 0 < o:=by omega
  clear h
  go_enter Tryz.func68,Tryz.ntmps68
  go_wp2
  go_ret
  exact ⟨ret_eq (by rw [HV.out];rfl),(Below.refl _ _).alloc (Nat.le_refl _) _⟩
 ·have HV:=Ld (show holdsP 1 o = true by simp [holdsP];omega)
  have e0 : (o == 0) = true:=by simp;omega
  have e1 : ¬ o < 0:=by omega
  have e2 : ¬ 0 < o:=by omega
  clear h
  go_enter Tryz.func68,Tryz.ntmps68
  go_wp2
  go_ret
  exact ⟨ret_eq (by rw [HV.out];rfl),(Below.refl _ _).alloc (Nat.le_refl _) _⟩
 ·have HV:=Ld (show holdsP 1 o = false by simp [holdsP];omega)
  have e0 : (o == 0) = false:=by simp;omega
  have e1 : ¬ o < 0:=by omega
  have e2 : 0 < o:=h
  clear h
  go_enter Tryz.func68,Tryz.ntmps68
  go_wp2
  go_ret
  exact ⟨ret_eq (by rw [HV.out];rfl),(Below.refl _ _).alloc (Nat.le_refl _) _⟩
 ·have HV:=Ld (show holdsP 2 o = true by simp [holdsP];omega)
  have e0 : (o == 0) = false:=by simp;omega
  have e1 : o < 0:=h
  have e2 : ¬ 0 < o:=by omega
  clear h
  go_enter Tryz.func68,Tryz.ntmps68
  go_wp2
  go_ret
  exact ⟨ret_eq (by rw [HV.out];rfl),(Below.refl _ _).alloc (Nat.le_refl _) _⟩
 ·have HV:=Ld (show holdsP 2 o = false by simp [holdsP];omega)
  have e0 : (o == 0) = true:=by simp;omega
  have e1 : ¬ o < 0:=by omega
  have e2 : ¬ 0 < o:=by omega
  clear h
  go_enter Tryz.func68,Tryz.ntmps68
  go_wp2
  go_ret
  exact ⟨ret_eq (by rw [HV.out];rfl),(Below.refl _ _).alloc (Nat.le_refl _) _⟩
 ·have HV:=Ld (show holdsP 2 o = true by simp [holdsP];omega)
  have e0 : (o == 0) = false:=by simp;omega
  have e1 : ¬ o < 0:=by omega
  have e2 : 0 < o:=h
  clear h
  go_enter Tryz.func68,Tryz.ntmps68
  go_wp2
  go_ret
  exact ⟨ret_eq (by rw [HV.out];rfl),(Below.refl _ _).alloc (Nat.le_refl _) _⟩
 ·have HV:=Ld (show holdsP 4 o = true by simp [holdsP];omega)
  have e0 : (o == 0) = false:=by simp;omega
  have e1 : o < 0:=h
  have e2 : ¬ 0 < o:=by omega
  clear h
  go_enter Tryz.func68,Tryz.ntmps68
  go_wp2
  go_ret
  exact ⟨ret_eq (by rw [HV.out];rfl),(Below.refl _ _).alloc (Nat.le_refl _) _⟩
 ·have HV:=Ld (show holdsP 4 o = true by simp [holdsP];omega)
  have e0 : (o == 0) = true:=by simp;omega
  have e1 : ¬ o < 0:=by omega
  have e2 : ¬ 0 < o:=by omega
  clear h
  go_enter Tryz.func68,Tryz.ntmps68
  go_wp2
  go_ret
  exact ⟨ret_eq (by rw [HV.out];rfl),(Below.refl _ _).alloc (Nat.le_refl _) _⟩
 ·have HV:=Ld (show holdsP 4 o = false by simp [holdsP];omega)
  have e0 : (o == 0) = false:=by simp;omega
  have e1 : ¬ o < 0:=by omega
  have e2 : 0 < o:=h
  clear h
  go_enter Tryz.func68,Tryz.ntmps68
  go_wp2
  go_ret
  exact ⟨ret_eq (by rw [HV.out];rfl),(Below.refl _ _).alloc (Nat.le_refl _) _⟩
 ·have HV:=Ld (show holdsP 3 o = true by simp [holdsP];omega)
  have e0 : (o == 0) = false:=by simp;omega
  have e1 : o < 0:=h
  have e2 : ¬ 0 < o:=by omega
  clear h
  go_enter Tryz.func68,Tryz.ntmps68
  go_wp2
  go_ret
  exact ⟨ret_eq (by rw [HV.out];rfl),(Below.refl _ _).alloc (Nat.le_refl _) _⟩
 ·have HV:=Ld (show holdsP 3 o = false by simp [holdsP];omega)
  have e0 : (o == 0) = true:=by simp;omega
  have e1 : ¬ o < 0:=by omega
  have e2 : ¬ 0 < o:=by omega
  clear h
  go_enter Tryz.func68,Tryz.ntmps68
  go_wp2
  go_ret
  exact ⟨ret_eq (by rw [HV.out];rfl),(Below.refl _ _).alloc (Nat.le_refl _) _⟩
 ·have HV:=Ld (show holdsP 3 o = false by simp [holdsP];omega)
  have e0 : (o == 0) = false:=by simp;omega
  have e1 : ¬ o < 0:=by omega
  have e2 : 0 < o:=h
  clear h
  go_enter Tryz.func68,Tryz.ntmps68
  go_wp2
  go_ret
  exact ⟨ret_eq (by rw [HV.out];rfl),(Below.refl _ _).alloc (Nat.le_refl _) _⟩
 ·have HV:=Ld (show holdsP 6 o = false by simp [holdsP];omega)
  have e0 : (o == 0) = false:=by simp;omega
  have e1 : o < 0:=h
  have e2 : ¬ 0 < o:=by omega
  clear h
  go_enter Tryz.func68,Tryz.ntmps68
  go_wp2
  go_ret
  exact ⟨ret_eq (by rw [HV.out];rfl),(Below.refl _ _).alloc (Nat.le_refl _) _⟩
 ·have HV:=Ld (show holdsP 6 o = true by simp [holdsP];omega)
  have e0 : (o == 0) = true:=by simp;omega
  have e1 : ¬ o < 0:=by omega
  have e2 : ¬ 0 < o:=by omega
  clear h
  go_enter Tryz.func68,Tryz.ntmps68
  go_wp2
  go_ret
  exact ⟨ret_eq (by rw [HV.out];rfl),(Below.refl _ _).alloc (Nat.le_refl _) _⟩
 ·have HV:=Ld (show holdsP 6 o = true by simp [holdsP];omega)
  have e0 : (o == 0) = false:=by simp;omega
  have e1 : ¬ o < 0:=by omega
  have e2 : 0 < o:=h
  clear h
  go_enter Tryz.func68,Tryz.ntmps68
  go_wp2
  go_ret
  exact ⟨ret_eq (by rw [HV.out];rfl),(Below.refl _ _).alloc (Nat.le_refl _) _⟩
 ·have HV:=Ld (show holdsP 5 o = false by simp [holdsP];omega)
  have e0 : (o == 0) = false:=by simp;omega
  have e1 : o < 0:=h
  have e2 : ¬ 0 < o:=by omega
  clear h
  go_enter Tryz.func68,Tryz.ntmps68
  go_wp2
  go_ret
  exact ⟨ret_eq (by rw [HV.out];rfl),(Below.refl _ _).alloc (Nat.le_refl _) _⟩
 ·have HV:=Ld (show holdsP 5 o = false by simp [holdsP];omega)
  have e0 : (o == 0) = true:=by simp;omega
  have e1 : ¬ o < 0:=by omega
  have e2 : ¬ 0 < o:=by omega
  clear h
  go_enter Tryz.func68,Tryz.ntmps68
  go_wp2
  go_ret
  exact ⟨ret_eq (by rw [HV.out];rfl),(Below.refl _ _).alloc (Nat.le_refl _) _⟩
 ·have HV:=Ld (show holdsP 5 o = true by simp [holdsP];omega)
  have e0 : (o == 0) = false:=by simp;omega
  have e1 : ¬ o < 0:=by omega
  have e2 : 0 < o:=h
  clear h
  go_enter Tryz.func68,Tryz.ntmps68
  go_wp2
  go_ret
  exact ⟨ret_eq (by rw [HV.out];rfl),(Below.refl _ _).alloc (Nat.le_refl _) _⟩
 ·have HV:=Ld (show holdsP xk o = false by simp [holdsP,k1,k2,k3,k4,k5,k6])
  have e0 : (o == 0) = false:=by simp;omega
  have e1 : o < 0:=h
  have e2 : ¬ 0 < o:=by omega
  have f1 : (xk == 1) = false:=by simpa using k1
  have f2 : (xk == 2) = false:=by simpa using k2
  have f3 : (xk == 3) = false:=by simpa using k3
  have f4 : (xk == 4) = false:=by simpa using k4
  have f5 : (xk == 5) = false:=by simpa using k5
  have f6 : (xk == 6) = false:=by simpa using k6
  clear k1 k2 k3 k4 k5 k6
  clear h
  go_enter Tryz.func68,Tryz.ntmps68
  go_wp2
  go_ret
  exact ⟨ret_eq (by rw [HV.out];rfl),(Below.refl _ _).alloc (Nat.le_refl _) _⟩
 ·have HV:=Ld (show holdsP xk o = false by simp [holdsP,k1,k2,k3,k4,k5,k6])
  have e0 : (o == 0) = true:=by simp;omega
  have e1 : ¬ o < 0:=by omega
  have e2 : ¬ 0 < o:=by omega
  have f1 : (xk == 1) = false:=by simpa using k1
  have f2 : (xk == 2) = false:=by simpa using k2
  have f3 : (xk == 3) = false:=by simpa using k3
  have f4 : (xk == 4) = false:=by simpa using k4
  have f5 : (xk == 5) = false:=by simpa using k5
  have f6 : (xk == 6) = false:=by simpa using k6
  clear k1 k2 k3 k4 k5 k6
  clear h
  go_enter Tryz.func68,Tryz.ntmps68
  go_wp2
  go_ret
  exact ⟨ret_eq (by rw [HV.out];rfl),(Below.refl _ _).alloc (Nat.le_refl _) _⟩
 ·have HV:=Ld (show holdsP xk o = false by simp [holdsP,k1,k2,k3,k4,k5,k6])
  have e0 : (o == 0) = false:=by simp;omega
  have e1 : ¬ o < 0:=by omega
  have e2 : 0 < o:=h
  have f1 : (xk == 1) = false:=by simpa using k1
  have f2 : (xk == 2) = false:=by simpa using k2
  have f3 : (xk == 3) = false:=by simpa using k3
  have f4 : (xk == 4) = false:=by simpa using k4
  have f5 : (xk == 5) = false:=by simpa using k5
  have f6 : (xk == 6) = false:=by simpa using k6
  clear k1 k2 k3 k4 k5 k6
  clear h
  go_enter Tryz.func68,Tryz.ntmps68
  go_wp2
  go_ret
  exact ⟨ret_eq (by rw [HV.out];rfl),(Below.refl _ _).alloc (Nat.le_refl _) _⟩
end
section
open Go.RowKit
set_option maxHeartbeats 1000000
set_option maxRecDepth 100000
abbrev c8 (xc : ByteArray) (xk ik : Int) (ib : Bool) (iN : Int) (iF : Nat) (it : ByteArray) (iA : Option Addr) (n ic : Nat) : Array Value:=#[.string xc,.int .u8 xk,.int .u8 ik,.bool ib,.int .i64 iN,.float .f64 iF,.string it,.slice iA n ic]
theorem box8 {W : World} {g : Nat} {xc : ByteArray} {xk ik : Int} {ib : Bool} {iN : Int} {iF : Nat} {it : ByteArray} {iA : Option Addr} {n ic : Nat} (h : W.heap[g]? = some (.cells (c8 xc xk ik ib iN iF it iA n ic) 69 (0,0))) :
 W.cell? ⟨g,0,none⟩ = some (.string xc) ∧ W.cell? ⟨g,1,none⟩ = some (.int .u8 xk) ∧ W.cell? ⟨g,2,none⟩ = some (.int .u8 ik) ∧ W.cell? ⟨g,3,none⟩ = some (.bool ib) ∧ W.cell? ⟨g,4,none⟩ = some (.int .i64 iN) ∧ W.cell? ⟨g,5,none⟩ = some (.float .f64 iF) ∧ W.cell? ⟨g,6,none⟩ = some (.string it) ∧ W.cell? ⟨g,7,none⟩ = some (.slice iA n ic) :=
 ⟨cell_of_row _ _ 0 _ _ _ h,cell_of_row _ _ 1 _ _ _ h,cell_of_row _ _ 2 _ _ _ h,cell_of_row _ _ 3 _ _ _ h,cell_of_row _ _ 4 _ _ _ h,cell_of_row _ _ 5 _ _ _ h,cell_of_row _ _ 6 _ _ _ h,cell_of_row _ _ 7 _ _ _ h⟩
theorem test1_c [Inhabited Thr] (xc : ByteArray) (xk ik : Int) (ib : Bool) (iN : Int) (iF : Nat) (it : ByteArray) (iA : Option Addr) (ic : Nat) (il : List VI) (g1 g2 : Nat) (A : Option Addr) (c k : Nat) (l : List VI) (w : World)
 (hX : RdV w (.mk ik ib iN iF it iA ic il)) (h1 : w.heap[g1]? = some (.cells (c8 xc xk ik ib iN iF it iA il.length ic) 69 (0,0))) (h2 : w.cell? ⟨g2,0,none⟩ = some (.int .i64 (k : Int))) (hL : RdI w A c l) (hk : k < l.length) :
 Calls Tryz.prog 67 #[.slice A l.length c,.pointer (some ⟨g1,0,none⟩),.pointer (some ⟨g2,0,none⟩)] w fun e w' => e = .returned (.bool (holdsP xk (cmpI l[k].data (VI.mk ik ib iN iF it iA ic il).data))) ∧ Below w.heap.size w w':=by
 have HX:=Ld hX
 have HL:=Ld hL
 have hg1 : g1 < w.heap.size:=(Array.getElem?_eq_some_iff.1 h1).1
 have hg2 : g2 < w.heap.size:=World.block_lt_of_cell? w _ h2
 obtain ⟨ab,ao,rfl⟩ : ∃ ab ao,A = some ⟨ab,ao,none⟩:=by obtain ⟨b,o,e,_⟩:=hL.rd.2 (by omega);exact ⟨b,o,e⟩
 have hlb:=hL.hb
 have HBC:=Ld (fun W (h : Below w.heap.size w W) => box8 ((h.block g1 hg1).trans h1))
 have HBK:=Ld (fun W (h : Below w.heap.size w W) => (h.cell (p:=⟨g2,0,none⟩) hg2).trans h2)
 have HIT:=Ld (fun W (h : Below w.heap.size w W) => item_at (HL.out.below h).rd hk)
 have HRX:=Ld (hL.hx _ (List.getElem_mem hk))
 obtain ⟨y,hy⟩ : ∃ y,l[k] = y:=⟨_,rfl⟩
 simp only [hy] at HIT HRX ⊢
 clear hy h1 h2 hX hL hg1 hg2
 rcases y with ⟨yk,yb,yn,yf,yt,yA,yc,yl⟩
 simp only [VI.k,VI.b,VI.n,VI.f,VI.t,VI.A,VI.c,VI.l] at HIT
 go_enter Tryz.func67,Tryz.ntmps67
 go_wp2
 refine wp_region_sched (S:=fun W => Below w.heap.size w W) [(0,true),(1,true),(2,true),(3,true),(4,true),(5,true),(6,true),(7,false),(8,false),(9,true)] (by kernel_rfl) (by kernel_rfl) (by kernel_rfl) (fun _ _ d _ _ h => by cases d <;> exact h) (Below.refl _ _).drew ?_
 repeat (apply sched_take;(exact rfl);rfl;(intro W hW;obtain ⟨b0,b1,b2,b3,b4,b5,b6,b7⟩:=HBC.out W hW;obtain ⟨p0,p1,p2,p3,p4,p5⟩:=HIT.out W hW;have bk:=HBK.out W hW;go_simp;(try with_reducible rfl));simp only [Act.put,List.setIfInBounds_toArray,List.set_cons_zero,List.set_cons_succ])
 apply sched_run;(exact rfl);rfl;intro K hK;go_simp
 have hbd:=(Below.refl w.heap.size w).drew
 refine (Compare_c (.mk yk yb yn yf yt yA yc yl) (.mk ik ib iN iF it iA ic il) _ (HRX.out.grow hbd) (HX.out.grow hbd)).mono ?_
 rintro e w1 ⟨rfl,hb⟩
 have HB1:=Ld (hbd.trans (hb.mono (show w.heap.size ≤ _ from hbd.size)))
 clear hbd hb
 obtain ⟨ci,hci⟩ : ∃ ci,cmpI (VI.mk yk yb yn yf yt yA yc yl).data (VI.mk ik ib iN iF it iA ic il).data = ci:=⟨_,rfl⟩
 have HCI:=Ld hci
 rw [HCI.out]
 clear hci
 refine hK.out _ _ HB1.out (fun _ => ?_)
 clear hK K
 try simp only [Act.put,List.setIfInBounds_toArray,List.set_cons_zero,List.set_cons_succ]
 apply sched_run;(exact rfl);rfl;intro K hK;go_simp
 refine (holds_c xc xk ik ib iN iF it iA il.length ic ci _).mono ?_
 rintro e w2 ⟨rfl,hb⟩
 have HB2:=Ld (HB1.out.trans (hb.mono HB1.out.size))
 clear hb
 refine hK.out _ _ HB2.out (fun _ => ?_)
 clear hK K
 try simp only [Act.put,List.setIfInBounds_toArray,List.set_cons_zero,List.set_cons_succ]
 apply sched_take;(exact rfl);rfl;(intro W hW;go_simp;(try with_reducible rfl));simp only [Act.put,List.setIfInBounds_toArray,List.set_cons_zero,List.set_cons_succ]
 refine sched_done ?_
 go_wp2
 go_ret
 exact ⟨ret_eq (by rw [HCI.out];rfl),HB2.out⟩
end
section
open Go.RowKit
set_option maxHeartbeats 1000000
set_option maxRecDepth 100000
def bestL (p : Int → Bool) : VI → List VI → VI
 | m,[] => m
 | m,y :: r => bestL p (if p (cmpI y.data m.data) then y else m) r
theorem bestL_drop (p : Int → Bool) (m : VI) (l : List VI) (k : Nat) (h : k < l.length) : bestL p m (l.drop k) = bestL p (if p (cmpI l[k].data m.data) then l[k] else m) (l.drop (k + 1)):=by
 rw [List.drop_eq_getElem_cons h,bestL]
structure BestAt (w : World) (m : VI) (W : World) : Prop where
 r4 : W.heap[w.heap.size]? = some (.cells (c6 0 false 0 0 ⟨#[]⟩ none 0 0) 54 (0,0))
 r5 : W.heap[w.heap.size + 1]? = some (.cells (c6 m.k m.b m.n m.f m.t m.A m.l.length m.c) 54 (0,0))
 bel : Below w.heap.size w W
section
variable {w W W' : World} {m : VI}
theorem BestAt.next (h : BestAt w m W) (hb : Below W.heap.size W W') : BestAt w m W':=by
 have h4:=(Array.getElem?_eq_some_iff.1 h.r4).1
 have h5:=(Array.getElem?_eq_some_iff.1 h.r5).1
 exact ⟨(hb.block _ h4).trans h.r4,(hb.block _ h5).trans h.r5,h.bel.trans (hb.mono (by omega))⟩
theorem BestAt.put (h : BestAt w m W) (x : VI) {cs : Array Value} (hcs : cs = c6 x.k x.b x.n x.f x.t x.A x.l.length x.c) : BestAt w x (W.setRow (w.heap.size + 1) cs):=by
 subst hcs
 exact ⟨(setRow_other _ _ _ _ (by omega)).trans h.r4,setRow_block _ _ _ _ _ _ h.r5,below_setRow h.bel (by omega) _⟩
theorem BestAt.cells (h : BestAt w m W) : (W.cell? ⟨w.heap.size + 1,0,none⟩ = some (.int .u8 m.k) ∧ W.cell? ⟨w.heap.size + 1,1,none⟩ = some (.bool m.b) ∧ W.cell? ⟨w.heap.size + 1,2,none⟩ = some (.int .i64 m.n) ∧
 W.cell? ⟨w.heap.size + 1,3,none⟩ = some (.float .f64 m.f) ∧ W.cell? ⟨w.heap.size + 1,4,none⟩ = some (.string m.t) ∧ W.cell? ⟨w.heap.size + 1,5,none⟩ = some (.slice m.A m.l.length m.c)) ∧ w.heap.size + 1 < W.heap.size :=
 ⟨⟨cell_of_row _ _ 0 _ _ _ h.r5,cell_of_row _ _ 1 _ _ _ h.r5,cell_of_row _ _ 2 _ _ _ h.r5,cell_of_row _ _ 3 _ _ _ h.r5,cell_of_row _ _ 4 _ _ _ h.r5,cell_of_row _ _ 5 _ _ _ h.r5⟩,(Array.getElem?_eq_some_iff.1 h.r5).1⟩
theorem BestAt.start (w : World) : BestAt w (.mk 0 false 0 0 ⟨#[]⟩ none 0 []) ((w.alloc (.cells (c6 0 false 0 0 ⟨#[]⟩ none 0 0) 54)).alloc (.cells (c6 0 false 0 0 ⟨#[]⟩ none 0 0) 54)) :=
 ⟨(((Below.refl (w.heap.size + 1) (w.alloc (.cells (c6 0 false 0 0 ⟨#[]⟩ none 0 0) 54))).alloc (by simp) _).block _ (by omega)).trans (heap_alloc_new w _),
   by have:=heap_alloc_new (w.alloc (.cells (c6 0 false 0 0 ⟨#[]⟩ none 0 0) 54)) (.cells (c6 0 false 0 0 ⟨#[]⟩ none 0 0) 54);simpa [VI.k,VI.b,VI.n,VI.f,VI.t,VI.A,VI.l,VI.c] using this,two_below w _ _⟩
theorem RdV.item [Inhabited Thr] (h : RdV w m) (hb : Below w.heap.size w W) : RdV W m:=h.grow hb
end
theorem min_c [Inhabited Thr] (A : Option Addr) (c : Nat) (l : List VI) (w : World) (hL : RdI w A c l) (h0 : 0 < l.length) :
 Calls Tryz.prog 102 #[.slice A l.length c,.func (.func 18) #[] #[]] w fun e w' => e = .returned (bestL (fun i => decide (i < 0)) l[0] (l.drop 1)).val ∧ Below w.heap.size w w':=by
 have HL:=Ld hL
 have hlb:=hL.hb
 obtain ⟨ab,ao,rfl⟩ : ∃ ab ao,A = some ⟨ab,ao,none⟩:=by obtain ⟨b,o,e,_⟩:=hL.rd.2 (by omega);exact ⟨b,o,e⟩
 have HS:=Ld (BestAt.start w)
 have hrd:=(HL.out.below ((Below.refl w.heap.size w).alloc (Nat.le_refl _) (.cells (c6 0 false 0 0 ⟨#[]⟩ none 0 0) 54))).rd
 obtain ⟨p0,p1,p2,p3,p4,p5⟩:=item_at hrd h0
 simp only [Nat.zero_mul,Nat.add_zero] at p0 p1 p2 p3 p4 p5
 obtain ⟨best,hbest⟩ : ∃ b,bestL (fun i => decide (i < 0)) l[0] (l.drop 1) = b:=⟨_,rfl⟩
 have HBE:=Ld hbest
 rw [HBE.out]
 have HX0:=Ld (hL.hx _ (List.getElem_mem h0))
 obtain ⟨x0,hx0⟩ : ∃ x,l[0] = x:=⟨_,rfl⟩
 rw [hx0] at p0 p1 p2 p3 p4 p5 HBE HX0
 clear hx0 hbest hrd hL
 rcases x0 with ⟨xk,xb,xn,xf,xt,xA,xc,xl⟩
 simp only [VI.k,VI.b,VI.n,VI.f,VI.t,VI.A,VI.c,VI.l] at p0 p1 p2 p3 p4 p5
 have HS1:=Ld (HS.out.put (.mk xk xb xn xf xt xA xc xl) (cs:=c6 xk xb xn xf xt xA xl.length xc) rfl)
 go_enter Tryz.func102,Tryz.ntmps102
 go_wp2_with (first
  | (refine wpList_store_row rfl 54 (.tmp 5) (.tmp 13) rfl (w.heap.size + 1) (c6 xk xb xn xf xt xA xl.length xc) (by first | rfl | simp) rfl 54 _ HS.out.r5 (by kernel_rfl) rfl (one6 _ _ _ _ _ _ _ _) ?_))
 clear p0 p1 p2 p3 p4 p5
 go_loopw [6] (fun i wr => ∃ (k : Nat) (m : VI),1 ≤ k ∧ k ≤ l.length ∧ i = .int .i64 k ∧ Hid (bestL (fun i => decide (i < 0)) m (l.drop k) = best) ∧ Hid (RdV w m) ∧ Hid (BestAt w m wr)) (fun i _ => l.length - (intOf i).toNat)
 case atStart => exact ⟨1,_,Nat.le_refl _,h0,rfl,HBE,HX0,HS1⟩
 case round =>
  obtain ⟨k,m,hk1,hk,rfl,hf,hM,hA⟩:=hrel
  obtain ⟨⟨m0,m1,m2,m3,m4,m5⟩,msz⟩:=hA.out.cells
  rcases m with ⟨mk,mb,mn,mf,mt,mA,mc,ml⟩
  simp only [VI.k,VI.b,VI.n,VI.f,VI.t,VI.A,VI.c,VI.l] at m0 m1 m2 m3 m4 m5
  by_cases hlt : k < l.length
  ·have HCE:=Ld (fun W (h : Below wr.heap.size wr W) => (item_at (HL.out.below (hA.out.bel.trans (h.mono hA.out.bel.size))).rd hlt))
   have HFD:=Ld (bestL_drop (fun i => decide (i < 0)) (.mk mk mb mn mf mt mA mc ml) l k hlt)
   have HY:=Ld (HL.out.hx _ (List.getElem_mem hlt))
   have HMC:=Ld (fun W (h : Below wr.heap.size wr W) => (hA.out.next h).cells)
   simp only [VI.k,VI.b,VI.n,VI.f,VI.t,VI.A,VI.c,VI.l] at HMC
   obtain ⟨y,hy⟩ : ∃ y,l[k] = y:=⟨_,rfl⟩
   simp only [hy] at HCE HFD HY
   clear hy
   rcases y with ⟨yk,yb,yn,yf,yt,yA,yc,yl⟩
   simp only [VI.k,VI.b,VI.n,VI.f,VI.t,VI.A,VI.c,VI.l] at HCE
   obtain ⟨ci,hci⟩ : ∃ ci,cmpI (VI.mk yk yb yn yf yt yA yc yl).data (VI.mk mk mb mn mf mt mA mc ml).data = ci:=⟨_,rfl⟩
   have HCI:=Ld hci
   rw [HCI.out] at HFD
   clear hci
   go_wp2
   refine wp_region_sched (S:=fun W => Below wr.heap.size wr W) [(0,true),(1,true),(2,true),(3,true),(4,true),(5,true),(6,false),(7,true)] (by kernel_rfl) (by kernel_rfl) (by kernel_rfl) (fun _ _ d _ _ h => by cases d <;> exact h) (Below.refl _ _).drew ?_
   repeat (apply sched_take;(exact rfl);rfl;(intro W hW;obtain ⟨p0,p1,p2,p3,p4,p5⟩:=HCE.out W hW;obtain ⟨⟨q0,q1,q2,q3,q4,q5⟩,q6⟩:=HMC.out W hW;go_simp;(try with_reducible rfl));simp only [Act.put,List.setIfInBounds_toArray,List.set_cons_zero,List.set_cons_succ])
   apply sched_run;(exact rfl);rfl;intro K hK;go_simp
   have hbd:=(Below.refl wr.heap.size wr).drew
   refine (Compare_c (.mk yk yb yn yf yt yA yc yl) (.mk mk mb mn mf mt mA mc ml) _ (HY.out.grow (hA.out.bel.trans (hbd.mono hA.out.bel.size))) (hM.out.grow (hA.out.bel.trans (hbd.mono hA.out.bel.size)))).mono ?_
   rintro e w1 ⟨rfl,hb⟩
   have HB1:=Ld (hbd.trans (hb.mono (show wr.heap.size ≤ _ from hbd.size)))
   clear hbd hb
   rw [HCI.out]
   refine hK.out _ _ HB1.out (fun _ => ?_)
   clear hK K
   try simp only [Act.put,List.setIfInBounds_toArray,List.set_cons_zero,List.set_cons_succ]
   apply sched_take;(exact rfl);rfl;(intro W hW;go_simp;(try with_reducible rfl));simp only [Act.put,List.setIfInBounds_toArray,List.set_cons_zero,List.set_cons_succ]
   refine sched_done ?_
   have HA1:=Ld (hA.out.next HB1.out)
   obtain ⟨p0,p1,p2,p3,p4,p5⟩:=HCE.out w1 HB1.out
   clear m0 m1 m2 m3 m4 m5 msz
   by_cases hc : ci < 0
   ·rw [decide_eq_true hc] at HFD
    go_wp2_with (first
     | (refine wpList_store_row rfl 54 (.tmp 5) (.tmp 31) rfl (w.heap.size + 1) (c6 yk yb yn yf yt yA yl.length yc) rfl rfl 54 _ HA1.out.r5 (by kernel_rfl) rfl (one6 _ _ _ _ _ _ _ _) ?_))
    exact ⟨⟨k + 1,_,by omega,by omega,by go_num,Ld (by rw [← hf.out,HFD.out];rfl),HY,Ld (HA1.out.put (.mk yk yb yn yf yt yA yc yl) rfl)⟩,by simp [intOf];omega⟩
   ·rw [decide_eq_false hc] at HFD
    go_wp2
    exact ⟨⟨k + 1,_,by omega,by omega,by go_num,Ld (by rw [← hf.out,HFD.out];rfl),hM,HA1⟩,by simp [intOf];omega⟩
  ·have HN:=Ld (show l.drop k = [] from List.drop_eq_nil_of_le (by omega))
   have HBE2:=Ld (show VI.mk mk mb mn mf mt mA mc ml = best by rw [← hf.out,HN.out,bestL])
   go_wp2_with (first
    | (refine wpList_store_row rfl 54 (.tmp 4) (.tmp 32) rfl w.heap.size (c6 mk mb mn mf mt mA ml.length mc) rfl rfl 54 _ hA.out.r4 (by kernel_rfl) rfl (one6 _ _ _ _ _ _ _ _) ?_))
   refine bodyPost_ret (results_c1 rfl _ _ w.heap.size 54 _ (0,0) _ rfl (setRow_block _ _ _ _ _ _ hA.out.r4) Tryz.underlying54 rfl (by kernel_rfl)) rfl ⟨by rw [← HBE2.out];rfl,below_setRow hA.out.bel (Nat.le_refl _) _⟩
theorem max_c [Inhabited Thr] (A : Option Addr) (c : Nat) (l : List VI) (w : World) (hL : RdI w A c l) (h0 : 0 < l.length) :
 Calls Tryz.prog 103 #[.slice A l.length c,.func (.func 18) #[] #[]] w fun e w' => e = .returned (bestL (fun i => decide (0 < i)) l[0] (l.drop 1)).val ∧ Below w.heap.size w w':=by
 have HL:=Ld hL
 have hlb:=hL.hb
 obtain ⟨ab,ao,rfl⟩ : ∃ ab ao,A = some ⟨ab,ao,none⟩:=by obtain ⟨b,o,e,_⟩:=hL.rd.2 (by omega);exact ⟨b,o,e⟩
 have HS:=Ld (BestAt.start w)
 have hrd:=(HL.out.below ((Below.refl w.heap.size w).alloc (Nat.le_refl _) (.cells (c6 0 false 0 0 ⟨#[]⟩ none 0 0) 54))).rd
 obtain ⟨p0,p1,p2,p3,p4,p5⟩:=item_at hrd h0
 simp only [Nat.zero_mul,Nat.add_zero] at p0 p1 p2 p3 p4 p5
 obtain ⟨best,hbest⟩ : ∃ b,bestL (fun i => decide (0 < i)) l[0] (l.drop 1) = b:=⟨_,rfl⟩
 have HBE:=Ld hbest
 rw [HBE.out]
 have HX0:=Ld (hL.hx _ (List.getElem_mem h0))
 obtain ⟨x0,hx0⟩ : ∃ x,l[0] = x:=⟨_,rfl⟩
 rw [hx0] at p0 p1 p2 p3 p4 p5 HBE HX0
 clear hx0 hbest hrd hL
 rcases x0 with ⟨xk,xb,xn,xf,xt,xA,xc,xl⟩
 simp only [VI.k,VI.b,VI.n,VI.f,VI.t,VI.A,VI.c,VI.l] at p0 p1 p2 p3 p4 p5
 have HS1:=Ld (HS.out.put (.mk xk xb xn xf xt xA xc xl) (cs:=c6 xk xb xn xf xt xA xl.length xc) rfl)
 go_enter Tryz.func103,Tryz.ntmps103
 go_wp2_with (first
  | (refine wpList_store_row rfl 54 (.tmp 5) (.tmp 13) rfl (w.heap.size + 1) (c6 xk xb xn xf xt xA xl.length xc) (by first | rfl | simp) rfl 54 _ HS.out.r5 (by kernel_rfl) rfl (one6 _ _ _ _ _ _ _ _) ?_))
 clear p0 p1 p2 p3 p4 p5
 go_loopw [6] (fun i wr => ∃ (k : Nat) (m : VI),1 ≤ k ∧ k ≤ l.length ∧ i = .int .i64 k ∧ Hid (bestL (fun i => decide (0 < i)) m (l.drop k) = best) ∧ Hid (RdV w m) ∧ Hid (BestAt w m wr)) (fun i _ => l.length - (intOf i).toNat)
 case atStart => exact ⟨1,_,Nat.le_refl _,h0,rfl,HBE,HX0,HS1⟩
 case round =>
  obtain ⟨k,m,hk1,hk,rfl,hf,hM,hA⟩:=hrel
  obtain ⟨⟨m0,m1,m2,m3,m4,m5⟩,msz⟩:=hA.out.cells
  rcases m with ⟨mk,mb,mn,mf,mt,mA,mc,ml⟩
  simp only [VI.k,VI.b,VI.n,VI.f,VI.t,VI.A,VI.c,VI.l] at m0 m1 m2 m3 m4 m5
  by_cases hlt : k < l.length
  ·have HCE:=Ld (fun W (h : Below wr.heap.size wr W) => (item_at (HL.out.below (hA.out.bel.trans (h.mono hA.out.bel.size))).rd hlt))
   have HFD:=Ld (bestL_drop (fun i => decide (0 < i)) (.mk mk mb mn mf mt mA mc ml) l k hlt)
   have HY:=Ld (HL.out.hx _ (List.getElem_mem hlt))
   have HMC:=Ld (fun W (h : Below wr.heap.size wr W) => (hA.out.next h).cells)
   simp only [VI.k,VI.b,VI.n,VI.f,VI.t,VI.A,VI.c,VI.l] at HMC
   obtain ⟨y,hy⟩ : ∃ y,l[k] = y:=⟨_,rfl⟩
   simp only [hy] at HCE HFD HY
   clear hy
   rcases y with ⟨yk,yb,yn,yf,yt,yA,yc,yl⟩
   simp only [VI.k,VI.b,VI.n,VI.f,VI.t,VI.A,VI.c,VI.l] at HCE
   obtain ⟨ci,hci⟩ : ∃ ci,cmpI (VI.mk yk yb yn yf yt yA yc yl).data (VI.mk mk mb mn mf mt mA mc ml).data = ci:=⟨_,rfl⟩
   have HCI:=Ld hci
   rw [HCI.out] at HFD
   clear hci
   go_wp2
   refine wp_region_sched (S:=fun W => Below wr.heap.size wr W) [(0,true),(1,true),(2,true),(3,true),(4,true),(5,true),(6,false),(7,true)] (by kernel_rfl) (by kernel_rfl) (by kernel_rfl) (fun _ _ d _ _ h => by cases d <;> exact h) (Below.refl _ _).drew ?_
   repeat (apply sched_take;(exact rfl);rfl;(intro W hW;obtain ⟨p0,p1,p2,p3,p4,p5⟩:=HCE.out W hW;obtain ⟨⟨q0,q1,q2,q3,q4,q5⟩,q6⟩:=HMC.out W hW;go_simp;(try with_reducible rfl));simp only [Act.put,List.setIfInBounds_toArray,List.set_cons_zero,List.set_cons_succ])
   apply sched_run;(exact rfl);rfl;intro K hK;go_simp
   have hbd:=(Below.refl wr.heap.size wr).drew
   refine (Compare_c (.mk yk yb yn yf yt yA yc yl) (.mk mk mb mn mf mt mA mc ml) _ (HY.out.grow (hA.out.bel.trans (hbd.mono hA.out.bel.size))) (hM.out.grow (hA.out.bel.trans (hbd.mono hA.out.bel.size)))).mono ?_
   rintro e w1 ⟨rfl,hb⟩
   have HB1:=Ld (hbd.trans (hb.mono (show wr.heap.size ≤ _ from hbd.size)))
   clear hbd hb
   rw [HCI.out]
   refine hK.out _ _ HB1.out (fun _ => ?_)
   clear hK K
   try simp only [Act.put,List.setIfInBounds_toArray,List.set_cons_zero,List.set_cons_succ]
   apply sched_take;(exact rfl);rfl;(intro W hW;go_simp;(try with_reducible rfl));simp only [Act.put,List.setIfInBounds_toArray,List.set_cons_zero,List.set_cons_succ]
   refine sched_done ?_
   have HA1:=Ld (hA.out.next HB1.out)
   obtain ⟨p0,p1,p2,p3,p4,p5⟩:=HCE.out w1 HB1.out
   clear m0 m1 m2 m3 m4 m5 msz
   by_cases hc : 0 < ci
   ·rw [decide_eq_true hc] at HFD
    go_wp2_with (first
     | (refine wpList_store_row rfl 54 (.tmp 5) (.tmp 31) rfl (w.heap.size + 1) (c6 yk yb yn yf yt yA yl.length yc) rfl rfl 54 _ HA1.out.r5 (by kernel_rfl) rfl (one6 _ _ _ _ _ _ _ _) ?_))
    exact ⟨⟨k + 1,_,by omega,by omega,by go_num,Ld (by rw [← hf.out,HFD.out];rfl),HY,Ld (HA1.out.put (.mk yk yb yn yf yt yA yc yl) rfl)⟩,by simp [intOf];omega⟩
   ·rw [decide_eq_false hc] at HFD
    go_wp2
    exact ⟨⟨k + 1,_,by omega,by omega,by go_num,Ld (by rw [← hf.out,HFD.out];rfl),hM,HA1⟩,by simp [intOf];omega⟩
  ·have HN:=Ld (show l.drop k = [] from List.drop_eq_nil_of_le (by omega))
   have HBE2:=Ld (show VI.mk mk mb mn mf mt mA mc ml = best by rw [← hf.out,HN.out,bestL])
   go_wp2_with (first
    | (refine wpList_store_row rfl 54 (.tmp 4) (.tmp 32) rfl w.heap.size (c6 mk mb mn mf mt mA ml.length mc) rfl rfl 54 _ hA.out.r4 (by kernel_rfl) rfl (one6 _ _ _ _ _ _ _ _) ?_))
   refine bodyPost_ret (results_c1 rfl _ _ w.heap.size 54 _ (0,0) _ rfl (setRow_block _ _ _ _ _ _ hA.out.r4) Tryz.underlying54 rfl (by kernel_rfl)) rfl ⟨by rw [← HBE2.out];rfl,below_setRow hA.out.bel (Nat.le_refl _) _⟩
end
section
open Go.RowKit
set_option maxHeartbeats 1000000
set_option maxRecDepth 100000
def FRes : Option Nat → Nat → Prop
 | some v,r => r = v ∧ r < 18446744073709551616
 | none,r => isNan r = true ∧ r < 18446744073709551616
theorem FRes.lt {o : Option Nat} {r : Nat} (h : FRes o r) : r < 18446744073709551616:=by cases o <;> exact h.2
theorem read_nan {f : Nat} (h : isNan f = true) : ∃ s p,FloatKind.f64.format.read f = .nan s p:=by
 cases hr : FloatKind.f64.format.read f with
 | nan s p => exact ⟨s,p,rfl⟩
 | infinity s => simp [isNan,Ieee.Format.order,hr,Ieee.Datum.order] at h
 | number s m e => simp [isNan,Ieee.Format.order,hr,Ieee.Datum.order] at h
theorem nan_cut (t : Nat) : isNan ((t % 2) * 2 ^ 63 + 0x7ff0000000000000 + 1 + (t / 2) % (2 ^ 52 - 1)) = true ∧ (t % 2) * 2 ^ 63 + 0x7ff0000000000000 + 1 + (t / 2) % (2 ^ 52 - 1) < 18446744073709551616:=by
 have h1 : t % 2 < 2:=Nat.mod_lt _ (by decide)
 have h2 : (t / 2) % (2 ^ 52 - 1) < 2 ^ 52 - 1:=Nat.mod_lt _ (by decide)
 refine ⟨?_,by omega⟩
 obtain ⟨f,hf⟩ : ∃ f,(t % 2) * 2 ^ 63 + 0x7ff0000000000000 + 1 + (t / 2) % (2 ^ 52 - 1) = f:=⟨_,rfl⟩
 obtain ⟨y,hy⟩ : ∃ y,(t / 2) % (2 ^ 52 - 1) = y:=⟨_,rfl⟩
 rw [hy] at h2 hf
 have h3 : 0x7ff0000000000000 < f % 9223372036854775808:=by
  rcases (show t % 2 = 0 ∨ t % 2 = 1 by omega) with e | e <;> rw [e] at hf <;> omega
 rw [hy]
 rw [hf]
 have hr : ∃ s p,FloatKind.f64.format.read f = .nan s p:=by
  unfold Ieee.Format.read
  have e1 : FloatKind.f64.format.signWeight = 9223372036854775808:=by rfl
  have e2 : FloatKind.f64.format.binade = 4503599627370496:=by rfl
  have e3 : FloatKind.f64.format.infRung = 0x7ff0000000000000:=by rfl
  simp only [e1,e2,e3]
  rw [if_neg (by omega),if_neg (by omega),if_neg (by omega)]
  exact ⟨_,_,rfl⟩
 obtain ⟨s,p,hr⟩:=hr
 simp [isNan,Ieee.Format.order,hr,Ieee.Datum.order]
theorem float_run (op : BinOp) (hop : op = .add ∨ op = .quo) (t : TypeId) (a b : Nat) (w : World) :
 ∃ r w',(binOp op t (.float .f64 a) (.float .f64 b)).run Tryz.prog w = .ok (.float .f64 r) w' ∧ FRes (floatBits op .f64 a b) r ∧ Below w.heap.size w w':=by
 cases hf : floatBits op .f64 a b with
 | some r =>
   refine ⟨r,w,run_float_arith w op t .f64 a b r hf,⟨rfl,?_⟩,Below.refl _ _⟩
   have:=floatBits_wf hf
   simpa [Lit.wf] using this
 | none =>
   have hn:=nan_cut (w.tape w.drawn (.nanBits .f64 a b))
   refine ⟨_,w.drew,?_,hn,(Below.refl _ _).drew⟩
   rcases hop with rfl | rfl
   all_goals
    simp only [floatBits] at hf
    simp [binOp,Op.floatArith,hf,Question.forced,Question.cut]
    try rfl
theorem wpList_float {ops : Array Oper} {rest : List Oper} {o : Oper} {a : Act} {w : World} {Q : Exit → Act → World → Prop} (hgd : o.guard = none) (op : BinOp) (hop : op = .add ∨ op = .quo) (t t2 : TypeId) (x y : Operand) (ho : o.op = .binOp op t x y t2)
 {m n : Nat} (hx : a.eval x = .float .f64 m) (hy : a.eval y = .float .f64 n) (h : ∀ r w',FRes (floatBits op .f64 m n) r → Below w.heap.size w w' → wpList Tryz.prog ops Q rest (a.put o.dst (.float .f64 r)) w') : wpList Tryz.prog ops Q (o :: rest) a w:=by
 refine wpList_plain hgd fun K hK => ?_
 obtain ⟨r,w',e,hr,hb⟩:=float_run op hop t m n w
 have heq : (eqGuard op t x y (.float .f64 m) (.float .f64 n)).run Tryz.prog w = .ok () w:=by
  rcases hop with rfl | rfl <;> rfl
 unfold Oper.wp execOp
 simp only [ho,hx,hy,Sem.run_bind,heq,e,Result.andThen_ok,Sem.run_pure]
 exact hK _ _ (h r w' hr hb)
end
section
open Go.RowKit
set_option maxHeartbeats 1000000
set_option maxRecDepth 100000
def itemF (k n : Int) (f : Nat) : Nat:=if k = 3 then floatOfInt .f64 n else f
theorem itemF_int {k n : Int} {f : Nat} (h : k = 3) : itemF k n f = floatOfInt .f64 n:=if_pos h
theorem itemF_float {k n : Int} {f : Nat} (h : ¬ k = 3) : itemF k n f = f:=if_neg h
def totS (o : Option Nat) (x : ItemD) : Option Nat:=o.bind fun a => floatBits .add .f64 a (itemF x.k x.n x.f)
def totO (l : List ItemD) : Option Nat:=l.foldl totS (some 0)
theorem add_nan {a b : Nat} (h : isNan a = true) : floatBits .add .f64 a b = none:=by
 obtain ⟨s,p,h⟩:=read_nan h
 simp [floatBits,Ieee.Format.add,h,Ieee.Datum.sum]
theorem FRes.add {o : Option Nat} {s v r : Nat} (h : FRes o s) (k : FRes (floatBits .add .f64 s v) r) : FRes (o.bind fun a => floatBits .add .f64 a v) r:=by
 cases o with
 | some a => obtain ⟨rfl,_⟩:=h;exact k
 | none => rw [add_nan h.1] at k;exact k
theorem tot_take (l : List VI) (k : Nat) (h : k < l.length) (x : VI) (hx : l[k] = x) : ((VI.dataL l).take (k + 1)).foldl totS (some 0) = (((VI.dataL l).take k).foldl totS (some 0)).bind fun a => floatBits .add .f64 a (itemF x.k x.n x.f):=by
 have hkd : k < (VI.dataL l).length:=by rw [dataL_eq,List.length_map];exact h
 rw [List.take_succ_eq_append_getElem hkd,data_at l k h,hx,List.foldl_append]
 show totS _ _ = _
 rw [totS,data_k]
 rcases x with ⟨_,_,_,_,_,_,_,_⟩
 simp [VI.data,VI.k,VI.n,VI.f,ItemD.n,ItemD.f]
theorem total_c [Inhabited Thr] (A : Option Addr) (c : Nat) (l : List VI) (w : World) (hL : RdI w A c l) : Calls Tryz.prog 104 #[.slice A l.length c] w fun e w' => ∃ r,e = .returned (.float .f64 r) ∧ FRes (totO (VI.dataL l)) r ∧ Below w.heap.size w w':=by
 have HL:=Ld hL
 have hlb:=hL.hb
 clear hL
 go_enter Tryz.func104,Tryz.ntmps104
 go_wp2
 go_loopw [8,3] (fun i v wr => ∃ (k s : Nat),k ≤ l.length ∧ i = .int .i64 k ∧ v = .float .f64 s ∧ Hid (FRes (((VI.dataL l).take k).foldl totS (some 0)) s) ∧ Hid (Below w.heap.size w wr)) (fun i _ _ => l.length - (intOf i).toNat)
 case atStart => exact ⟨0,0,Nat.zero_le _,rfl,rfl,Ld ⟨rfl,by decide⟩,Ld (Below.refl _ _)⟩
 case round =>
  obtain ⟨k,s,hk,rfl,rfl,hs,hB⟩:=hrel
  by_cases hlt : k < l.length
  ·have HLr:=Ld (HL.out.below hB.out)
   obtain ⟨ab,ao,rfl⟩ : ∃ ab ao,A = some ⟨ab,ao,none⟩:=by obtain ⟨b,o,e,_⟩:=HLr.out.rd.2 (by omega);exact ⟨b,o,e⟩
   obtain ⟨p0,p1,p2,p3,p4,p5⟩:=item_at HLr.out.rd hlt
   have HTT:=Ld (tot_take l k hlt _ rfl)
   obtain ⟨x,hx⟩ : ∃ x,l[k] = x:=⟨_,rfl⟩
   rw [hx] at p0 p1 p2 p3 p4 p5 HTT
   clear hx
   rcases x with ⟨xk,xb,xn,xf,xt,xA,xc,xl⟩
   simp only [VI.k,VI.b,VI.n,VI.f,VI.t,VI.A,VI.c,VI.l] at p0 p1 p2 p3 p4 p5 HTT
   by_cases h3 : xk = 3
   ·rw [itemF_int h3] at HTT
    have e3 : (xk == 3) = true:=by simpa using h3
    clear h3
    go_wp2_with (refine wpList_float rfl .add (.inl rfl) _ _ (.tmp 15) (.tmp 18) rfl rfl rfl ?_;intro r w2 hr hb;have HR2:=Ld hr;have HB2:=Ld (hB.out.trans (((Below.refl wr.heap.size wr).alloc (Nat.le_refl _) (.cells (c6 xk xb xn xf xt xA xl.length xc) 54) |>.trans (hb.mono (by simp))).mono hB.out.size));clear hr hb)
    exact ⟨⟨k + 1,r,by omega,by go_num,rfl,Ld (by rw [HTT.out];exact hs.out.add HR2.out),HB2⟩,by simp [intOf];omega⟩
   ·rw [itemF_float h3] at HTT
    have e3 : (xk == 3) = false:=by simpa using h3
    clear h3
    go_wp2_with (refine wpList_float rfl .add (.inl rfl) _ _ (.tmp 20) (.tmp 22) rfl rfl rfl ?_;intro r w2 hr hb;have HR2:=Ld hr;have HB2:=Ld (hB.out.trans (((Below.refl wr.heap.size wr).alloc (Nat.le_refl _) (.cells (c6 xk xb xn xf xt xA xl.length xc) 54) |>.trans (hb.mono (by simp))).mono hB.out.size));clear hr hb)
    exact ⟨⟨k + 1,r,by omega,by go_num,rfl,Ld (by rw [HTT.out];exact hs.out.add HR2.out),HB2⟩,by simp [intOf];omega⟩
  ·have HN:=Ld (show (VI.dataL l).take k = VI.dataL l from List.take_of_length_le (by rw [dataL_eq,List.length_map];omega))
   go_wp2
   go_ret
   exact ⟨s,rfl,by have:=hs.out;rw [HN.out] at this;exact this,hB.out⟩
theorem add64_call (x y c : Int) (w : World) (hx : 0 ≤ x) (hy : 0 ≤ y) (hc : 0 ≤ c ∧ c ≤ 1) :
 (callFunc 129 #[.int .u64 x,.int .u64 y,.int .u64 c]).run Tryz.prog w = .ok (.value (.tuple #[.int .u64 ((x + y + c) % 18446744073709551616),.int .u64 ((x + y + c) / 18446744073709551616)])) w:=by
 rw [run_callFunc_extern (e:=add64Entry) Tryz.func129 (by kernel_rfl) (by kernel_rfl) (by kernel_rfl) (by kernel_rfl),run_add64 _ _ _ hx hy hc.1 hc.2]
 rfl
end
section
open Go.RowKit
set_option maxHeartbeats 1000000
set_option maxRecDepth 100000
def sumN : List ItemD → Int
 | [] => 0
 | x :: l => x.n + sumN l
theorem sumN_app (a b : List ItemD) : sumN (a ++ b) = sumN a + sumN b:=by
 induction a with
 | nil => simp [sumN]
 | cons x a ih => simp only [List.cons_append,sumN,ih];omega
theorem sum_take (l : List VI) (k : Nat) (h : k < l.length) (x : VI) (hx : l[k] = x) : sumN ((VI.dataL l).take (k + 1)) = sumN ((VI.dataL l).take k) + x.n:=by
 have hkd : k < (VI.dataL l).length:=by rw [dataL_eq,List.length_map];exact h
 rw [List.take_succ_eq_append_getElem hkd,data_at l k h,hx,sumN_app]
 rcases x with ⟨_,_,_,_,_,_,_,_⟩
 simp [sumN,VI.data,VI.n,ItemD.n]
def wholeR (l : List ItemD) : Int × Nat:=if -9223372036854775808 ≤ sumN l ∧ sumN l ≤ 9223372036854775807 then (sumN l,0) else (0,262)
def wholeV (l : List ItemD) : VI:=if (wholeR l).2 = 0 then .mk 3 false (wholeR l).1 0 ⟨#[]⟩ none 0 [] else .mk 0 false 0 0 ⟨#[]⟩ none 0 []
theorem whole_ar {S a b n h : Int} {k : Nat} (hk : k ≤ 2199023255552) (ha : a = S % 18446744073709551616) (hb : b = S / 18446744073709551616 % 18446744073709551616)
 (hS : -(k * 9223372036854775808 : Int) ≤ S ∧ S ≤ k * 9223372036854775808) (hn : n = (a + 9223372036854775808) % 18446744073709551616 - 9223372036854775808) (hh : h = (n / 9223372036854775808) % 18446744073709551616) :
 (b = h → -9223372036854775808 ≤ S ∧ S ≤ 9223372036854775807 ∧ n = S) ∧ (¬ b = h → ¬ (-9223372036854775808 ≤ S ∧ S ≤ 9223372036854775807)):=by
 obtain ⟨q,hq⟩ : ∃ q,S / 18446744073709551616 = q:=⟨_,rfl⟩
 have hSq : S = 18446744073709551616 * q + a:=by omega
 have ha0 : 0 ≤ a ∧ a < 18446744073709551616:=by omega
 rw [hq] at hb
 have hq0 : -2199023255553 ≤ q ∧ q ≤ 2199023255553:=by omega
 clear hq ha
 by_cases hlt : a < 9223372036854775808
 ·have hn' : n = a:=by omega
  have hh' : h = 0:=by omega
  constructor
  ·intro e
   have : q = 0:=by omega
   omega
  ·intro e e2
   have : q = 0:=by omega
   omega
 ·have hn' : n = a - 18446744073709551616:=by omega
  have hh' : h = 18446744073709551615:=by omega
  constructor
  ·intro e
   have : q = -1:=by omega
   omega
  ·intro e e2
   have : q = -1:=by omega
   omega
theorem whole_items_c [Inhabited Thr] (A : Option Addr) (c : Nat) (l : List VI) (w : World) (hL : RdI w A c l) : Calls Tryz.prog 105 #[.slice A l.length c] w fun e w' => e = .returned (.tuple #[(wholeV (VI.dataL l)).val,.int .i64 (wholeR (VI.dataL l)).2]) ∧ Below w.heap.size w w':=by
 have HL:=Ld hL
 have hlb:=hL.hb
 clear hL
 have HO:=Ld (heap_alloc_new w (.cells (c6 0 false 0 0 ⟨#[]⟩ none 0 0) 54))
 go_enter Tryz.func105,Tryz.ntmps105
 go_wp2
 go_loopw [12,5,4] (fun i lo hi wr => ∃ (k : Nat) (a b : Int),k ≤ l.length ∧ i = .int .i64 k ∧ lo = .int .u64 a ∧ hi = .int .u64 b ∧ 0 ≤ a ∧ a ≤ 18446744073709551615 ∧ 0 ≤ b ∧ b ≤ 18446744073709551615 ∧ Hid (a = sumN ((VI.dataL l).take k) % 18446744073709551616) ∧ Hid (b = sumN ((VI.dataL l).take k) / 18446744073709551616 % 18446744073709551616) ∧
  Hid (-(k * 9223372036854775808 : Int) ≤ sumN ((VI.dataL l).take k) ∧ sumN ((VI.dataL l).take k) ≤ k * 9223372036854775808) ∧ Hid (wr.heap[w.heap.size]? = some (.cells (c6 0 false 0 0 ⟨#[]⟩ none 0 0) 54 (0,0))) ∧ Hid (Below w.heap.size w wr)) (fun i _ _ _ => l.length - (intOf i).toNat)
 case atStart => exact ⟨0,0,0,Nat.zero_le _,rfl,rfl,rfl,by decide,by decide,by decide,by decide,Ld rfl,Ld rfl,Ld ⟨by simp [sumN],by simp [sumN]⟩,HO,Ld ((Below.refl _ _).alloc (Nat.le_refl _) _)⟩
 case round =>
  obtain ⟨k,a,b,hk,rfl,rfl,rfl,ha0,ha1,hb0,hb1,ha,hb,hS,hrow,hB⟩:=hrel
  by_cases hlt : k < l.length
  ·have HLr:=Ld (HL.out.below hB.out)
   obtain ⟨ab,ao,rfl⟩ : ∃ ab ao,A = some ⟨ab,ao,none⟩:=by obtain ⟨b,o,e,_⟩:=HLr.out.rd.2 (by omega);exact ⟨b,o,e⟩
   obtain ⟨p0,p1,p2,p3,p4,p5⟩:=item_at HLr.out.rd hlt
   have HTT:=Ld (sum_take l k hlt _ rfl)
   have HX:=Ld (HL.out.hx _ (List.getElem_mem hlt))
   obtain ⟨x,hx⟩ : ∃ x,l[k] = x:=⟨_,rfl⟩
   rw [hx] at p0 p1 p2 p3 p4 p5 HTT HX
   clear hx
   rcases x with ⟨xk,xb,xn,xf,xt,xA,xc,xl⟩
   simp only [VI.k,VI.b,VI.n,VI.f,VI.t,VI.A,VI.c,VI.l] at p0 p1 p2 p3 p4 p5 HTT
   have hxn : -9223372036854775808 ≤ xn ∧ xn ≤ 9223372036854775807:=by have h1:=HX.out;cases h1 with | mk _ _ _ _ _ _ _ hn _ => exact hn
   obtain ⟨u,hu⟩ : ∃ u,IntKind.u64.wrap xn = u:=⟨_,rfl⟩
   have HU:=Ld (show u = xn % 18446744073709551616 from hu.symm)
   have hu0 : 0 ≤ u:=by have:=HU.out;omega
   obtain ⟨v,hv⟩ : ∃ v,IntKind.u64.wrap (xn / 9223372036854775808) = v:=⟨_,rfl⟩
   have HV:=Ld (show v = (xn / 9223372036854775808) % 18446744073709551616 from hv.symm)
   have hv0 : 0 ≤ v:=by have:=HV.out;omega
   have had1:=fun w => add64_call a u 0 w ha0 hu0 ⟨by decide,by decide⟩
   obtain ⟨a2,ha2⟩ : ∃ v,(a + u + 0) % 18446744073709551616 = v:=⟨_,rfl⟩
   obtain ⟨c2,hc2⟩ : ∃ v,(a + u + 0) / 18446744073709551616 = v:=⟨_,rfl⟩
   have hu1 : u ≤ 18446744073709551615:=by have:=HU.out;omega
   have had2:=fun w => add64_call b v c2 w hb0 hv0 ⟨by omega,by omega⟩
   obtain ⟨b2,hb2⟩ : ∃ w,(b + v + c2) % 18446744073709551616 = w:=⟨_,rfl⟩
   obtain ⟨d2,hd2⟩ : ∃ w,(b + v + c2) / 18446744073709551616 = w:=⟨_,rfl⟩
   rw [ha2,hc2] at had1
   rw [hb2,hd2] at had2
   have HA2:=Ld ha2
   have HC2:=Ld hc2
   have HB2:=Ld hb2
   clear ha2 hc2 hb2 hd2
   go_wp2
   refine ⟨⟨k + 1,a2,b2,by omega,by go_num,rfl,rfl,?_,?_,?_,?_,Ld ?_,Ld ?_,Ld ?_,Ld (((Below.refl wr.heap.size wr).alloc (Nat.le_refl _) _).block _ (Array.getElem?_eq_some_iff.1 hrow.out).1 |>.trans hrow.out),Ld (hB.out.alloc hB.out.size _)⟩,by simp [intOf];omega⟩
   ·have:=HA2.out;omega
   ·have:=HA2.out;omega
   ·have:=HB2.out;omega
   ·have:=HB2.out;omega
   ·rw [HTT.out];have:=HA2.out;have:=HU.out;have:=ha.out;omega
   ·rw [HTT.out];have:=HA2.out;have:=HU.out;have:=ha.out;have:=HB2.out;have:=hb.out;have:=HV.out;have:=HC2.out;omega
   ·rw [HTT.out];have:=hS.out;omega
  ·have HN:=Ld (show (VI.dataL l).take k = VI.dataL l from List.take_of_length_le (by rw [dataL_eq,List.length_map];omega))
   obtain ⟨S,hSe⟩ : ∃ S,sumN (VI.dataL l) = S:=⟨_,rfl⟩
   have HSE:=Ld hSe
   rw [HN.out,HSE.out] at ha hb hS
   clear hSe
   obtain ⟨n,hn⟩ : ∃ n,wrap64 a = n:=⟨_,rfl⟩
   have HNW:=Ld (show n = (a + 9223372036854775808) % 18446744073709551616 - 9223372036854775808 by rw [← hn];unfold wrap64;omega)
   obtain ⟨h',hh⟩ : ∃ v,IntKind.u64.wrap (n / 9223372036854775808) = v:=⟨_,rfl⟩
   have HH:=Ld (show h' = (n / 9223372036854775808) % 18446744073709551616 from hh.symm)
   have HAR:=Ld (whole_ar (by omega) ha.out hb.out hS.out HNW.out HH.out)
   by_cases hbe : b = h'
   ·have e1 : (b != h') = false:=by simpa using hbe
    have HR:=Ld (show -9223372036854775808 ≤ S ∧ S ≤ 9223372036854775807 ∧ n = S from HAR.out.1 hbe)
    have HWR:=Ld (show wholeR (VI.dataL l) = (n,0) by rw [wholeR,HSE.out,if_pos ⟨HR.out.1,HR.out.2.1⟩,HR.out.2.2])
    clear hbe
    go_wp2_with (refine wpList_store_row rfl 54 (.tmp 2) (.tmp 44) rfl w.heap.size (c6 3 false n 0 ⟨#[]⟩ none 0 0) rfl rfl 54 _ hrow.out (by kernel_rfl) rfl (one6 _ _ _ _ _ _ _ _) ?_)
    refine bodyPost_ret (results_ct rfl _ _ w.heap.size 54 _ (0,0) _ rfl (setRow_block _ _ _ _ _ _ hrow.out) Tryz.underlying54 rfl (by kernel_rfl)) rfl ⟨by rw [wholeV,HWR.out];rfl,below_setRow hB.out (Nat.le_refl _) _⟩
   ·have e1 : (b != h') = true:=by simpa using hbe
    have HR:=Ld (show ¬ (-9223372036854775808 ≤ S ∧ S ≤ 9223372036854775807) from HAR.out.2 hbe)
    have HWR:=Ld (show wholeR (VI.dataL l) = (0,262) by rw [wholeR,HSE.out,if_neg HR.out])
    clear hbe
    go_wp2_with (refine wpList_store_row rfl 54 (.tmp 2) (.tmp 42) rfl w.heap.size (c6 0 false 0 0 ⟨#[]⟩ none 0 0) rfl rfl 54 _ hrow.out (by kernel_rfl) rfl (one6 _ _ _ _ _ _ _ _) ?_)
    refine bodyPost_ret (results_ct rfl _ _ w.heap.size 54 _ (0,0) _ rfl (setRow_block _ _ _ _ _ _ hrow.out) Tryz.underlying54 rfl (by kernel_rfl)) rfl ⟨by rw [wholeV,HWR.out];rfl,below_setRow hB.out (Nat.le_refl _) _⟩
end
end Go.Proofs.YtonjgedhmmnolaaGreatDoor
section
namespace Go.Proofs
open Go.Shelf
def Tryz.revL_ren : Go.Shelf.Ren:=⟨fun | 35 => 35 | n => n,fun | 22 => 44 | 23 => 28 | 3 => 3 | 4 => 4 | 0 => 0 | n => n,fun | n => n⟩
theorem Tryz.revL : SlLaysE.n35 Tryz.prog Tryz.revL_ren := { mixed := by kernel_rfl, f35 := ⟨"slices.Reverse[[][]heartwood/api.Item,[]heartwood/api.Item]", by decide, Tryz.func35.trans (congrArg some (by kernel_rfl))⟩, t0 := Tryz.underlying0, a0 := Tryz.isAgg0, z0 := Tryz.sizeOf0, v0 := Tryz.zeroValue0, t3 := Tryz.underlying3, a3 := Tryz.isAgg3, z3 := Tryz.sizeOf3, v3 := Tryz.zeroValue3, t4 := Tryz.underlying4, a4 := Tryz.isAgg4, z4 := Tryz.sizeOf4, v4 := Tryz.zeroValue4, t22 := Tryz.underlying44, a22 := Tryz.isAgg44, z22 := Tryz.sizeOf44, v22 := Tryz.zeroValue44, a23 := Tryz.isAgg28, z23 := Tryz.sizeOf28 }
end Go.Proofs
namespace Go.Proofs.YtonjgedhmmnolaaGreatDoor
open Go.RowKit
set_option maxHeartbeats 1000000
set_option maxRecDepth 100000
abbrev rcell (x : VI) : Value:=.slice x.A x.l.length x.c
theorem infoR : (Tryz.prog.info? 28).map (fun i => (i.zero,i.size,i.bytes)) = some (some (.slice none 0 0),1,24):=by kernel_rfl
structure RdR [Inhabited Thr] (w : World) (A : Option Addr) (c : Nat) (R : List VI) : Prop where
 rd : Rd w 1 A R.length (R.map rcell)
 hc : R.length ≤ c
 hb : R.length * 24 ≤ 140737488355328
 hx : ∀ x ∈ R,RdV w x
structure OwnR [Inhabited Thr] (w : World) (B : Nat) (v : Value) (R : List VI) : Prop where
 own : w.ownsRow B 28 1 v R.length (R.map rcell)
 rd : ∀ x ∈ R,RdV w x
 ne : ∀ x ∈ R,BlkV (fun k => v.ownBlock ≠ some k) x
section
variable {w w' : World} {B : Nat} {v : Value} {R ys : List VI} {S : Nat → Prop} {A : Option Addr} {c : Nat}
theorem RdR.below [Inhabited Thr] (h : RdR w A c R) (hb : Below w.heap.size w w') : RdR w' A c R:=⟨h.rd.below hb,h.hc,h.hb,fun y hy => (h.hx y hy).grow hb⟩
theorem RdR.nil [Inhabited Thr] (w : World) (c : Nat) : RdR w none c []:=⟨.none_,Nat.zero_le _,by simp,by simp⟩
theorem OwnR.nil [Inhabited Thr] (w : World) (B : Nat) : OwnR w B (.slice none 0 0) []:=⟨World.ownsRow_nil _ _ _ _,by simp,by simp⟩
theorem OwnR.below [Inhabited Thr] (h : OwnR w B v R) (hb : Below w.heap.size w w') : OwnR w' B v R:=⟨own_below h.own hb,fun x hx => (h.rd x hx).grow hb,h.ne⟩
theorem OwnR.kept [Inhabited Thr] (h : OwnR w B v R) (hk : Kept S w w') (hs : ∀ k,v.ownBlock = some k → ¬ S k) (hb : ∀ x ∈ R,BlkV (fun k => ¬ S k) x) : OwnR w' B v R :=
 ⟨own_kept h.own hk hs,fun x hx => (h.rd x hx).kept hk (hb x hx),h.ne⟩
theorem rcells_one (R : List VI) : ∀ u ∈ R.map rcell,u.oneCell' = true:=by
 intro u hu
 obtain ⟨x,_,rfl⟩:=List.mem_map.1 hu
 rfl
theorem OwnR.app [Inhabited Thr] {v' : Value} {m : Nat} (h : OwnR w B v R) (hm : m = ys.length) (hy : ∀ y ∈ ys,RdV w y) (hyn : ∀ y ∈ ys,BlkV (fun k => v.ownBlock ≠ some k) y) (h2 : w'.ownsRow B 28 1 v' (R.length + m) (R.map rcell ++ ys.map rcell))
 (h3 : w.grownBy w' v.ownBlock) (h4 : v'.ownBlock = v.ownBlock ∨ v'.ownBlock = some w.heap.size) : OwnR w' B v' (R ++ ys):=by
 subst hm
 have hk : Kept (fun k => v.ownBlock = some k) w w':=(Kept.refl _ w).grown h3 (fun k hk _ => hk)
 have hall : ∀ x ∈ R ++ ys,RdV w x ∧ BlkV (fun k => v.ownBlock ≠ some k) x:=by
  intro x hx
  rcases List.mem_append.1 hx with hx | hx
  ·exact ⟨h.rd x hx,h.ne x hx⟩
  ·exact ⟨hy x hx,hyn x hx⟩
 refine ⟨by rw [List.length_append,List.map_append];exact h2,fun x hx => (hall x hx).1.kept hk (hall x hx).2,fun x hx => ?_⟩
 have hb:=(hall x hx).2.and (hall x hx).1.blk
 refine hb.mono fun k hk e => ?_
 rcases h4 with h4 | h4
 ·exact hk.1 (h4 ▸ e)
 ·rw [h4] at e
  have:=Option.some.inj e
  omega
theorem OwnR.rdr [Inhabited Thr] (h : OwnR w B v R) (hl : R.length * 24 ≤ 140737488355328) : ∃ A c,v = .slice A R.length c ∧ RdR w A c R:=by
 have h0:=h.own
 rcases h0.2 with ⟨rfl,h1⟩ | ⟨g,cap,cur,rfl,_⟩
 ·have hl0 : R = []:=List.eq_nil_of_length_eq_zero (by simpa using h1)
  subst hl0
  exact ⟨none,0,rfl,RdR.nil _ _⟩
 ·have:=own_rd' h.own
  exact ⟨_,_,rfl,this.2,this.1,hl,h.rd⟩
theorem wpList_rows [Inhabited Thr] {ops : Array Oper} {rest : List Oper} {o : Oper} {a : Act} {Q : Exit → Act → World → Prop} (hgd : o.guard = none) (s x : Operand)
 (ho : o.op = .call { callee:=.builtin .append,args:=#[s,x],argTypes:=#[44,44] }) (hO : OwnR w B v R) (hs : a.eval s = v)
 {A : Option Addr} {m c : Nat} (hx : a.eval x = .slice A m c) (hr : Rd w 1 A m (ys.map rcell)) (hm : m = ys.length) (hy : ∀ y ∈ ys,RdV w y) (hyn : ∀ y ∈ ys,BlkV (fun k => v.ownBlock ≠ some k) y)
 (hl : (R.length + m) * 24 ≤ 140737488355328) (hB : B ≤ w.heap.size)
 (h : ∀ v' w',OwnR w' B v' (R ++ ys) → Kept (fun k => v.ownBlock = some k) w w' → (v'.ownBlock = v.ownBlock ∨ v'.ownBlock = some w.heap.size) → wpList Tryz.prog ops Q rest (a.put o.dst v') w') : wpList Tryz.prog ops Q (o :: rest) a w :=
 wpList_plain hgd fun K hK => by
  obtain ⟨i0,hi,hz0,hz1,hz2⟩:=info_parts infoR
  refine wp_append_rd s x 44 ho B 28 Tryz.underlying44 hi hz0 hz1 hz2 rfl (by decide) hs hO.own hx hr (rcells_one _) hl (by decide) hB ?_
  intro v' w' h2 h3 h4
  exact hK _ _ (h v' w' (hO.app hm hy hyn h2 h3 h4.1) ((Kept.refl _ w).grown h3 (fun k hk _ => hk)) h4.1)
theorem row_at {b o : Nat} (h : Rd w 1 (some ⟨b,o,none⟩) R.length (R.map rcell)) {k : Nat} (hk : k < R.length) : w.cell? ⟨b,o + k,none⟩ = some (.slice R[k].A R[k].l.length R[k].c):=by
 obtain ⟨b',o',e,hc⟩:=h.2 (by omega)
 cases e
 exact hc k _ (by rw [List.getElem?_map,List.getElem?_eq_getElem hk];rfl)
theorem reverse_c [Inhabited Thr] (h : OwnR w B v R) (hl : R.length * 24 ≤ 140737488355328) : Calls Tryz.prog 35 #[v] w fun e w' => e = .returned (.tuple #[]) ∧ OwnR w' B v R.reverse ∧ Kept (fun k => v.ownBlock = some k) w w':=by
 haveI : Inhabited VI:=⟨.mk 0 false 0 0 ⟨#[]⟩ none 0 []⟩
 have hkeep : ∀ W,OwnR w B v R → w.heap.size ≤ W.heap.size → Kept (fun k => v.ownBlock = some k) w W → W.ownsRow B 28 1 v R.reverse.length (R.reverse.map rcell) → OwnR W B v R.reverse :=
  fun W h _ hk ho => ⟨ho,fun x hx => (h.rd x (List.mem_reverse.1 hx)).kept hk (h.ne x (List.mem_reverse.1 hx)),fun x hx => h.ne x (List.mem_reverse.1 hx)⟩
 rcases h.own.2 with ⟨rfl,h1⟩ | ⟨g,cap,cur,rfl,hB,hg,hc,hm,hs,ht⟩
 ·have hl0 : R = []:=List.eq_nil_of_length_eq_zero (by simpa using h1)
  subst hl0
  refine (AnyE.slices_Reverse_empty Tryz.revL none 0 w).mono ?_
  rintro e w' ⟨rfl,rfl⟩
  exact ⟨rfl,OwnR.nil _ _,Kept.refl _ _⟩
 ·have hH : Go.Sort.Holds rcell w g 0 R.toArray:=by
    intro j hj
    have hj' : j < R.length:=by simpa using hj
    refine ⟨?_,frozen_of_row w g _ _ _ hg⟩
    have hr:=row_at (own_rd' h.own).2 hj'
    rw [hr]
    simp [hj']
  refine (AnyE.slices_Reverse Tryz.revL rcell (fun _ => rfl) g 0 cap R w hH (by omega)).mono ?_
  rintro e w' ⟨rfl,n,rfl⟩
  have hblk : (Go.Sort.putRow rcell (Go.Sort.ahead w n) g 0 R.reverse.toArray).heap[g]? = some (.cells (Go.Sort.putCells rcell 0 R.reverse.toArray cur) 28 (0,0)):=by
   simp only [Go.Sort.putRow,Go.Sort.mapBlock,Array.getElem?_modify,if_true]
   show Option.map _ (w.heap[g]?) = _
   rw [hg]
   rfl
  have hkk : Kept (fun k => (Value.slice (some ⟨g,0,none⟩) R.length cap).ownBlock = some k) w (Go.Sort.putRow rcell (Go.Sort.ahead w n) g 0 R.reverse.toArray):=by
   refine ⟨rfl,rfl,rfl,by simp [Go.Sort.ahead],fun k hk hn => ?_⟩
   have hne : ¬ g = k:=fun e => hn (by subst e;rfl)
   simp only [Go.Sort.putRow,Go.Sort.mapBlock,Array.getElem?_modify,if_neg hne]
   rfl
  refine ⟨rfl,hkeep _ h (by simp [Go.Sort.ahead]) hkk ⟨by simp,.inr ⟨g,cap,_,by simp,hB,hblk,by simpa using hc,hm,by simpa [Go.Sort.putCells] using hs,?_⟩⟩,hkk⟩
  apply List.ext_getElem?
  intro k
  by_cases hk : k < R.length
  ·have hk2 : k < cur.size:=by omega
   have hk3 : k < R.reverse.length:=by simpa using hk
   simp [Go.Sort.putCells,List.getElem?_take,hk,hk2]
  ·rw [List.getElem?_eq_none (by simp;omega),List.getElem?_eq_none (by simp;omega)]
end
end Go.Proofs.YtonjgedhmmnolaaGreatDoor
end
namespace Go.Proofs.YtonjgedhmmnolaaGreatDoor
section
open Go.RowKit
set_option maxHeartbeats 1000000
set_option maxRecDepth 100000
structure TestV where
 g1 : Nat
 g2 : Nat
 c : CondD
def TestV.val (x : TestV) : Value:=.func (.func 67) #[] #[.pointer (some ⟨x.g1,0,none⟩),.pointer (some ⟨x.g2,0,none⟩)]
theorem infoT : (Tryz.prog.info? 82).map (fun i => (i.zero,i.size,i.bytes)) = some (some .nilFunc,1,8):=by kernel_rfl
def TestAt (w : World) (t : TabD) (x : TestV) : Prop :=
 w.heap[x.g1]? = some (.cells (c8 x.c.col x.c.kind x.c.item.k x.c.item.b x.c.item.n x.c.item.f x.c.item.t x.c.item.A x.c.item.l.length x.c.item.c) 69 (0,0)) ∧ w.heap[x.g2]? = some (.cells #[.int .i64 (findC t x.c.col)] 3 (0,0))
structure OwnT (w : World) (t : TabD) (B : Nat) (v : Value) (T : List TestV) : Prop where
 own : w.ownsRow B 82 1 v T.length (T.map TestV.val)
 hx : ∀ x ∈ T,TestAt w t x
section
variable {w w' : World} {t : TabD} {B : Nat} {v : Value} {T : List TestV} {x : TestV}
theorem kept_type {S : Nat → Prop} {E e : TypeId} {g : Nat} {cs : Array Value} (hk : Kept S w w') (hS : ∀ k,S k → ∃ cs,w.heap[k]? = some (.cells cs E (0,0))) (hg : w.heap[g]? = some (.cells cs e (0,0))) (hne : e ≠ E) : w'.heap[g]? = some (.cells cs e (0,0)):=by
 refine (hk.block g (Array.getElem?_eq_some_iff.1 hg).1 fun h => ?_).trans hg
 obtain ⟨c,hc⟩:=hS g h
 rw [hg] at hc
 simp only [Option.some.injEq,Obj.cells.injEq] at hc
 exact hne hc.2.1
theorem TestAt.below (h : TestAt w t x) (hb : Below w.heap.size w w') : TestAt w' t x :=
 ⟨(hb.block _ (Array.getElem?_eq_some_iff.1 h.1).1).trans h.1,(hb.block _ (Array.getElem?_eq_some_iff.1 h.2).1).trans h.2⟩
theorem OwnT.nil (w : World) (t : TabD) (B : Nat) : OwnT w t B (.slice none 0 0) []:=⟨World.ownsRow_nil _ _ _ _,by simp⟩
theorem OwnT.below (h : OwnT w t B v T) (hb : Below w.heap.size w w') : OwnT w' t B v T:=⟨own_below h.own hb,fun x hx => (h.hx x hx).below hb⟩
theorem tests_one (T : List TestV) : ∀ u ∈ T.map TestV.val,u.oneCell' = true:=by
 intro u hu
 obtain ⟨x,_,rfl⟩:=List.mem_map.1 hu
 rfl
theorem wpList_tests {ops : Array Oper} {rest : List Oper} {o : Oper} {a : Act} {Q : Exit → Act → World → Prop} (hgd : o.guard = none) (s y : Operand)
 (ho : o.op = .call { callee:=.builtin .append,args:=#[s,y],argTypes:=#[78,78] }) (hO : OwnT w t B v T) (hs : a.eval s = v)
 {g c : Nat} (hy : a.eval y = .slice (some ⟨g,0,none⟩) 1 c) (hg : w.heap[g]? = some (.cells #[x.val] 82 (0,0))) (hx : TestAt w t x)
 (hl : (T.length + 1) * 8 ≤ 140737488355328) (hB : B ≤ w.heap.size)
 (h : ∀ v' w',OwnT w' t B v' (T ++ [x]) → Kept (fun k => v.ownBlock = some k) w w' → wpList Tryz.prog ops Q rest (a.put o.dst v') w') : wpList Tryz.prog ops Q (o :: rest) a w :=
 wpList_plain hgd fun K hK => by
  obtain ⟨i0,hi,hz0,hz1,hz2⟩:=info_parts infoT
  refine wp_append_rd s y 78 ho B 82 Tryz.underlying78 hi hz0 hz1 hz2 rfl (by decide) hs hO.own (m:=1) (news:=[x.val]) hy ⟨rfl,fun _ => ⟨g,0,rfl,fun j u hu => ?_⟩⟩ (tests_one [x]) hl (by decide) hB ?_
  ·rw [Nat.zero_add,cell_of_row _ _ j _ _ _ hg]
   simpa using hu
  ·intro v' w' h2 h3 h4
   have hk : Kept (fun k => v.ownBlock = some k) w w':=(Kept.refl _ w).grown h3 (fun k hk _ => hk)
   have hall : ∀ z ∈ T ++ [x],TestAt w t z:=by
    intro z hz
    rcases List.mem_append.1 hz with hz | hz
    ·exact hO.hx z hz
    ·rw [List.mem_singleton.1 hz];exact hx
   exact hK _ _ (h v' w' ⟨by rw [List.length_append,List.map_append];exact h2,fun z hz => ⟨kept_type hk (fun k hk => own_type hO.own k hk) (hall z hz).1 (by decide),kept_type hk (fun k hk => own_type hO.own k hk) (hall z hz).2 (by decide)⟩⟩ hk)
end
theorem take_snoc {α : Type} (l : List α) (k : Nat) (h : k < l.length) {x : α} (hx : l[k] = x) : l.take k ++ [x] = l.take (k + 1):=by
 rw [List.take_succ_eq_append_getElem h,hx]
theorem Kept.belowOwn {w w' : World} {B n size : Nat} {v : Value} {e : TypeId} {xs : List Value} (h : Kept (fun k => v.ownBlock = some k) w w') (ho : w.ownsRow B e size v n xs) (hB : B ≤ w.heap.size) : Below B w w' :=
 h.below hB fun k hk hs => by have:=(ho.lt k hs).1;omega
theorem row_keep' {w W' : World} {g : Nat} {cs : Array Value} {t : TypeId} (h : w.heap[g]? = some (.cells cs t (0,0))) (hb : Below w.heap.size w W') : W'.heap[g]? = some (.cells cs t (0,0)) :=
 (hb.block _ (Array.getElem?_eq_some_iff.1 h).1).trans h
theorem test_at {w1 : World} {t : TabD} {fi : Int} (x : TestV) (h : w1.heap[x.g1]? = some (.cells (c8 x.c.col x.c.kind x.c.item.k x.c.item.b x.c.item.n x.c.item.f x.c.item.t x.c.item.A x.c.item.l.length x.c.item.c) 69 (0,0))) (hf : findC t x.c.col = fi) (hg : x.g2 = w1.heap.size) (o : Obj) :
 TestAt ((w1.alloc (.cells #[.int .i64 fi] 3)).alloc o) t x:=by
 have hb : Below w1.heap.size w1 ((w1.alloc (.cells #[.int .i64 fi] 3)).alloc o):=two_below w1 _ _
 refine ⟨row_keep' h hb,?_⟩
 rw [hg,hf]
 exact row_keep' (heap_alloc_new w1 (.cells #[.int .i64 fi] 3)) ((Below.refl _ _).alloc (Nat.le_refl _) _)
theorem tests_c [Inhabited Thr] (A : Option Addr) (c : Nat) (t : TabD) (q : QryV) (w : World) (hR : RdT w A c t) (hQ : RdQ w q) :
 Calls Tryz.prog 36 #[vT t A c,q.val] w fun e w' => ∃ v T,e = .returned v ∧ OwnT w' t w.heap.size v T ∧ T.map (·.c) = q.wh ∧ Below w.heap.size w w':=by
 have HR:=Ld hR
 have HQ:=Ld hQ
 have hwb:=hQ.wb
 have hcb:=hQ.cb
 rcases q with ⟨qt,fr,tt,wh,qc,qd,ql,qf,qo,AF,cF,AT,cT,AW,cW,AC,cC⟩
 rcases t with ⟨tn,cols,keys⟩
 simp only [QryV.val,QryV.cells] at hwb hcb ⊢
 have HBX:=Ld (fun W (h : Below (w.heap.size + 2) ((w.alloc (.cells #[.string tn,.slice A cols.length c,.int .i64 keys] 27)).alloc (.cells #[.string qt,.slice AF fr.length cF,.slice AT tt.length cT,.slice AW wh.length cW,.slice AC qc.length cC,.bool qd,.int .i64 ql,.int .u8 qf,.string qo] 33)) W) => boxes_tq h)
 have HBR:=Ld (Below.refl (w.heap.size + 2) ((w.alloc (.cells #[.string tn,.slice A cols.length c,.int .i64 keys] 27)).alloc (.cells #[.string qt,.slice AF fr.length cF,.slice AT tt.length cT,.slice AW wh.length cW,.slice AC qc.length cC,.bool qd,.int .i64 ql,.int .u8 qf,.string qo] 33)))
 clear hR hQ
 go_enter Tryz.func36,Tryz.ntmps36
 go_wp2
 go_loopw [12,5] (fun i v wr => ∃ (k : Nat) (T : List TestV),k ≤ wh.length ∧ i = .int .i64 k ∧ Hid (T.map (·.c) = wh.take k) ∧ Hid (OwnT wr ⟨tn,cols,keys⟩ (w.heap.size + 2) v T) ∧ Hid (Below (w.heap.size + 2) ((w.alloc (.cells #[.string tn,.slice A cols.length c,.int .i64 keys] 27)).alloc (.cells #[.string qt,.slice AF fr.length cF,.slice AT tt.length cT,.slice AW wh.length cW,.slice AC qc.length cC,.bool qd,.int .i64 ql,.int .u8 qf,.string qo] 33)) wr)) (fun i _ _ => wh.length - (intOf i).toNat)
 case atStart => exact ⟨0,[],Nat.zero_le _,rfl,Ld rfl,Ld (OwnT.nil _ _ _),HBR⟩
 case round =>
  obtain ⟨k,T,hk,rfl,hT,hO,hB⟩:=hrel
  obtain ⟨⟨q0,q1,q2⟩,⟨a0,a1,a2,a3,a4,a5,a6,a7,a8⟩,q3,q4⟩:=HBX.out _ hB.out
  have HW:=Ld q4
  clear q4
  have q5 : w.heap.size < wr.heap.size:=by omega
  have HQr:=Ld (HQ.out.below HW.out)
  by_cases hlt : k < wh.length
  ·obtain ⟨ab,ao,rfl⟩ : ∃ ab ao,AW = some ⟨ab,ao,none⟩:=by obtain ⟨b,o,e,_⟩:=HQr.out.wh.2 (show 0 < wh.length by omega);exact ⟨b,o,e⟩
   obtain ⟨p0,p1,p2,p3,p4,p5,p6,p7⟩:=cond_at HQr.out.wh hlt
   simp only at p0 p1 p2 p3 p4 p5 p6 p7
   have HTK:=Ld (fun x (hx : wh[k] = x) => take_snoc wh k hlt hx)
   have HTL:=Ld (show T.length = k by have:=congrArg List.length hT.out;rw [List.length_map,List.length_take] at this;omega)
   obtain ⟨x,hx⟩ : ∃ x,wh[k] = x:=⟨_,rfl⟩
   have HXE:=Ld (HTK.out x hx)
   rw [hx] at p0 p1 p2 p3 p4 p5 p6 p7
   clear hx HTK
   obtain ⟨fi,hfi⟩ : ∃ fi,findC ⟨tn,cols,keys⟩ x.col = fi:=⟨_,rfl⟩
   have HFI:=Ld hfi
   rcases x with ⟨xc,xk,⟨ik,ib,iN,iF,it,iA,ic,il⟩⟩
   simp only [VI.k,VI.b,VI.n,VI.f,VI.t,VI.A,VI.c,VI.l] at p0 p1 p2 p3 p4 p5 p6 p7 HFI
   clear hfi
   have HBA:=Ld (hB.out.alloc (show w.heap.size + 2 ≤ wr.heap.size by omega) (.cells (c8 xc xk ik ib iN iF it iA il.length ic) 69))
   have HWA:=Ld (HW.out.alloc HW.out.size (.cells (c8 xc xk ik ib iN iF it iA il.length ic) 69))
   go_wp2_with (first
    | (go_at_call 59;go_must (refine (column_c A c ⟨tn,cols,keys⟩ xc _ (HR.out.below HWA.out)).mono ?_;rw [HFI.out];rintro e w1 ⟨rfl,hb⟩;have HB1:=Ld (((Below.refl wr.heap.size wr).alloc (Nat.le_refl _) (.cells (c8 xc xk ik ib iN iF it iA il.length ic) 69)).trans (hb.mono (by simp)));have HG1:=Ld (row_keep' (heap_alloc_new wr (.cells (c8 xc xk ik ib iN iF it iA il.length ic) 69)) hb);clear hb p0 p1 p2 p3 p4 p5 p6 p7 a0 a1 a2 a3 a4 a5 a6 a7 a8 q0 q1 q2))
    | (at_builtin;go_must (have HO5:=Ld ((hO.out.below HB1.out).below (two_below w1 (.cells #[.int .i64 fi] 3) (.cells #[TestV.val ⟨wr.heap.size,w1.heap.size,⟨xc,xk,.mk ik ib iN iF it iA ic il⟩⟩] 82)));have HTA:=Ld (test_at (t:=⟨tn,cols,keys⟩) (fi:=fi) (TestV.mk wr.heap.size w1.heap.size ⟨xc,xk,.mk ik ib iN iF it iA ic il⟩) HG1.out HFI.out rfl (.cells #[TestV.val ⟨wr.heap.size,w1.heap.size,⟨xc,xk,.mk ik ib iN iF it iA ic il⟩⟩] 82));refine wpList_tests (B:=w.heap.size + 2) (g:=w1.heap.size + 1) (c:=1) rfl (.tmp 20) (.tmp 22) rfl HO5.out rfl rfl (alloc2_at w1 _ _) HTA.out (by have:=HTL.out;omega) (Nat.le_trans (show w.heap.size + 2 ≤ wr.heap.size from q3) (Nat.le_trans HB1.out.size (by simp;omega))) ?_;intro v2 w3 hO2 hK2;have HO2:=Ld hO2;have HK2:=Ld (hK2.belowOwn HO5.out.own (Nat.le_trans (show w.heap.size + 2 ≤ wr.heap.size from q3) (Nat.le_trans HB1.out.size (by simp;omega))));clear hO2 hK2)))
   exact ⟨⟨k + 1,_,by omega,by go_num,Ld (by rw [List.map_append,hT.out];exact HXE.out),HO2,Ld (((hB.out.trans (HB1.out.mono (show w.heap.size + 2 ≤ wr.heap.size from q3))).trans ((two_below w1 _ _).mono (Nat.le_trans (show w.heap.size + 2 ≤ wr.heap.size from q3) HB1.out.size))).trans HK2.out)⟩,by simp [intOf];omega⟩
  ·have HN:=Ld (show wh.take k = wh from List.take_of_length_le (by omega))
   go_wp2
   go_ret
   exact ⟨_,T,rfl,⟨ownsRow_mono' hO.out.own (by omega),hO.out.hx⟩,by rw [hT.out,HN.out],HW.out⟩
end
end Go.Proofs.YtonjgedhmmnolaaGreatDoor
