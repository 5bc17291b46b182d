import Derived.Test.YtonjgedhmmnolaaGreatDoorZ9
namespace Go.Proofs.YtonjgedhmmnolaaGreatDoor
section
open Go.RowKit
set_option maxHeartbeats 1000000
set_option maxRecDepth 100000
def findL : List ColD → List UInt8 → Nat → Int
 | [],_,_ => -1
 | c :: l,s,i => if c.name.data.toList = s then i else findL l s (i + 1)
def findC (t : TabD) (s : ByteArray) : Int:=findL t.cols s.data.toList 0
theorem findL_drop (l : List ColD) (s : List UInt8) (k : Nat) (h : k < l.length) : findL (l.drop k) s k = if l[k].name.data.toList = s then (k : Int) else findL (l.drop (k + 1)) s (k + 1):=by
 rw [List.drop_eq_getElem_cons h,findL]
theorem eqB (a b : ByteArray) : (a.toList == b.toList) = decide (a.data.toList = b.data.toList):=by
 rw [ByteArray.toList_eq,ByteArray.toList_eq]
 by_cases h : a.data.toList = b.data.toList
 ·rw [h];simp
 ·rw [decide_eq_false h,beq_eq_false_iff_ne];exact h
theorem column1_c (c : ColD) (s : ByteArray) (g : Nat) (w : World) (hc : w.cell? ⟨g,0,none⟩ = some (.string s)) :
 Calls Tryz.prog 93 #[.agg #[.string c.name,.int .u8 c.kind,.bool c.null],.pointer (some ⟨g,0,none⟩)] w fun e w' => e = .returned (.bool (decide (c.name.data.toList = s.data.toList))) ∧ Below w.heap.size w w':=by
 have hg : g < w.heap.size:=World.block_lt_of_cell? w _ hc
 have HE:=Ld (eqB c.name s)
 go_enter Tryz.func93,Tryz.ntmps93
 go_wp2
 go_ret
 exact ⟨ret_eq (by rw [← HE.out];rfl),(Below.refl _ _).alloc (Nat.le_refl _) _⟩
theorem indexC_c (A : Option Addr) (c : Nat) (l : List ColD) (s : ByteArray) (g : Nat) (w : World) (hR : Rd w 3 A l.length (ccells l)) (hl : l.length * 24 ≤ 140737488355328) (hc0 : w.cell? ⟨g,0,none⟩ = some (.string s)) :
 Calls Tryz.prog 92 #[.slice A l.length c,.func (.func 93) #[] #[.pointer (some ⟨g,0,none⟩)]] w fun e w' => e = .returned (.int .i64 (findL l s.data.toList 0)) ∧ Below w.heap.size w w':=by
 have hg : g < w.heap.size:=World.block_lt_of_cell? w _ hc0
 have HR:=Ld hR
 have HC:=Ld hc0
 clear hR hc0
 go_enter Tryz.func92,Tryz.ntmps92
 go_wp2
 go_loopw [8] (fun i wr => ∃ k : Nat,k ≤ l.length ∧ i = .int .i64 k ∧ Hid (findL l s.data.toList 0 = findL (l.drop k) s.data.toList k) ∧ Hid (Below w.heap.size w wr)) (fun i _ => l.length - (intOf i).toNat)
 case atStart => exact ⟨0,Nat.zero_le _,rfl,Ld rfl,Ld (Below.refl _ _)⟩
 case round =>
  obtain ⟨k,hk,rfl,hf,hB⟩:=hrel
  have HRr:=Ld (HR.out.below hB.out)
  have HCr:=Ld ((hB.out.cell (p:=⟨g,0,none⟩) hg).trans HC.out)
  by_cases hlt : k < l.length
  ·obtain ⟨ab,ao,rfl⟩ : ∃ ab ao,A = some ⟨ab,ao,none⟩:=by obtain ⟨b,o,e,_⟩:=HRr.out.2 (by omega);exact ⟨b,o,e⟩
   obtain ⟨p0,p1,p2⟩:=col_at HRr.out hlt
   have HFD:=Ld (findL_drop l s.data.toList k hlt)
   obtain ⟨x,hx⟩ : ∃ x,l[k] = x:=⟨_,rfl⟩
   rw [hx] at p0 p1 p2 HFD
   clear hx
   by_cases he : x.name.data.toList = s.data.toList
   ·have HE:=Ld (decide_eq_true he)
    rw [if_pos he] at HFD
    clear he
    go_wp2_with (go_at_call 93;refine (column1_c x s g _ HCr.out).mono ?_;rw [HE.out];rintro e w1 ⟨rfl,hb⟩;have HB1:=Ld hb;clear hb)
    go_ret
    exact ⟨ret_eq (by rw [hf.out,HFD.out];rfl),hB.out.trans (HB1.out.mono hB.out.size)⟩
   ·have HE:=Ld (decide_eq_false he)
    rw [if_neg he] at HFD
    clear he
    go_wp2_with (go_at_call 93;refine (column1_c x s g _ HCr.out).mono ?_;rw [HE.out];rintro e w1 ⟨rfl,hb⟩;have HB1:=Ld hb;clear hb)
    exact ⟨⟨k + 1,by omega,by go_num,Ld (by rw [hf.out,HFD.out]),Ld (hB.out.trans (HB1.out.mono hB.out.size))⟩,by simp [intOf];omega⟩
  ·have HN:=Ld (show l.drop k = [] from List.drop_eq_nil_of_le (by omega))
   go_wp2
   go_ret
   exact ⟨ret_eq (by rw [hf.out,HN.out];rfl),hB.out⟩
theorem column_c (A : Option Addr) (c : Nat) (t : TabD) (s : ByteArray) (w : World) (hR : RdT w A c t) : Calls Tryz.prog 59 #[vT t A c,.string s] w fun e w' => e = .returned (.int .i64 (findC t s)) ∧ Below w.heap.size w w':=by
 have HR:=Ld hR
 rcases t with ⟨tn,cols,keys⟩
 clear hR
 go_enter Tryz.func59,Tryz.ntmps59
 go_wp2_with (go_at_call 92;go_must (refine (indexC_c A c cols s (w.heap.size + 1) _ (HR.out.rd.below (two_below w _ _)) HR.out.hb (by simp)).mono ?_;rintro e w1 ⟨rfl,hb⟩;have HB1:=Ld hb;clear hb))
 go_ret
 exact ⟨rfl,(two_below w _ _).trans (HB1.out.mono (by simp;omega))⟩
end
section
open Go.RowKit
set_option maxHeartbeats 1000000
set_option maxRecDepth 100000
structure CondD where
 col : ByteArray
 kind : Int
 item : VI
structure QryV where
 table : ByteArray
 fr : List VI
 tt : List VI
 wh : List CondD
 cols : List ByteArray
 down : Bool
 limit : Int
 fold : Int
 over : ByteArray
 AF : Option Addr
 cF : Nat
 AT : Option Addr
 cT : Nat
 AW : Option Addr
 cW : Nat
 AC : Option Addr
 cC : Nat
def CondD.cells (c : CondD) : List Value:=.string c.col :: .int .u8 c.kind :: c.item.cells
def wcells (l : List CondD) : List Value:=l.flatMap CondD.cells
def QryV.cells (q : QryV) : Array Value:=#[.string q.table,.slice q.AF q.fr.length q.cF,.slice q.AT q.tt.length q.cT,.slice q.AW q.wh.length q.cW,.slice q.AC q.cols.length q.cC,.bool q.down,.int .i64 q.limit,.int .u8 q.fold,.string q.over]
def QryV.val (q : QryV) : Value:=.agg q.cells
structure RdQ [Inhabited Thr] (w : World) (q : QryV) : Prop where
 fr : RdI w q.AF q.cF q.fr
 tt : RdI w q.AT q.cT q.tt
 wh : Rd w 8 q.AW q.wh.length (wcells q.wh)
 wc : q.wh.length ≤ q.cW
 wb : q.wh.length * 88 ≤ 140737488355328
 wx : ∀ x ∈ q.wh,RdV w x.item ∧ x.col.size ≤ 140737488355328 ∧ 0 ≤ x.kind ∧ x.kind ≤ 255
 cl : Rd w 1 q.AC q.cols.length (q.cols.map .string)
 cc : q.cols.length ≤ q.cC
 cb : q.cols.length * 16 ≤ 140737488355328
 cx : ∀ x ∈ q.cols,x.size ≤ 140737488355328
 nt : q.table.size ≤ 140737488355328
 no : q.over.size ≤ 140737488355328
 hl : -9223372036854775808 ≤ q.limit ∧ q.limit ≤ 9223372036854775807
 hf : 0 ≤ q.fold ∧ q.fold ≤ 255
theorem RdQ.below [Inhabited Thr] {w w' : World} {q : QryV} (h : RdQ w q) (hb : Below w.heap.size w w') : RdQ w' q :=
 ⟨h.fr.below hb,h.tt.below hb,h.wh.below hb,h.wc,h.wb,fun x hx => ⟨(h.wx x hx).1.grow hb,(h.wx x hx).2⟩,h.cl.below hb,h.cc,h.cb,h.cx,h.nt,h.no,h.hl,h.hf⟩
theorem cond_at {w : World} {b o : Nat} {l : List CondD} (h : Rd w 8 (some ⟨b,o,none⟩) l.length (wcells l)) {k : Nat} (hk : k < l.length) :
 w.cell? ⟨b,o + k * 8,none⟩ = some (.string l[k].col) ∧ w.cell? ⟨b,o + k * 8 + 1,none⟩ = some (.int .u8 l[k].kind) ∧ w.cell? ⟨b,o + k * 8 + 2,none⟩ = some (.int .u8 l[k].item.k) ∧ w.cell? ⟨b,o + k * 8 + 3,none⟩ = some (.bool l[k].item.b) ∧
 w.cell? ⟨b,o + k * 8 + 4,none⟩ = some (.int .i64 l[k].item.n) ∧ w.cell? ⟨b,o + k * 8 + 5,none⟩ = some (.float .f64 l[k].item.f) ∧ w.cell? ⟨b,o + k * 8 + 6,none⟩ = some (.string l[k].item.t) ∧ w.cell? ⟨b,o + k * 8 + 7,none⟩ = some (.slice l[k].item.A l[k].item.l.length l[k].item.c):=by
 obtain ⟨b',o',e,hc⟩:=h.2 (by omega)
 cases e
 have hp:=flat_get CondD.cells 8 l (fun _ _ => rfl) k hk
 refine ⟨?_,?_,?_,?_,?_,?_,?_,?_⟩
 ·exact hc _ _ (by rw [show k * 8 = k * 8 + 0 from rfl];exact (hp 0 (by decide)).trans rfl)
 ·rw [Nat.add_assoc];exact hc _ _ ((hp 1 (by decide)).trans rfl)
 ·rw [Nat.add_assoc];exact hc _ _ ((hp 2 (by decide)).trans rfl)
 ·rw [Nat.add_assoc];exact hc _ _ ((hp 3 (by decide)).trans rfl)
 ·rw [Nat.add_assoc];exact hc _ _ ((hp 4 (by decide)).trans rfl)
 ·rw [Nat.add_assoc];exact hc _ _ ((hp 5 (by decide)).trans rfl)
 ·rw [Nat.add_assoc];exact hc _ _ ((hp 6 (by decide)).trans rfl)
 ·rw [Nat.add_assoc];exact hc _ _ ((hp 7 (by decide)).trans rfl)
theorem str_at {w : World} {b o : Nat} {l : List ByteArray} (h : Rd w 1 (some ⟨b,o,none⟩) l.length (l.map .string)) {k : Nat} (hk : k < l.length) : w.cell? ⟨b,o + k,none⟩ = some (.string l[k]):=by
 obtain ⟨b',o',e,hc⟩:=h.2 (by omega)
 cases e
 exact hc k _ (by simp [hk])
def namedB (t : TabD) (q : QryV) : Bool:=(q.wh.all fun c => decide (0 ≤ findC t c.col)) && (q.cols.all fun s => decide (0 ≤ findC t s)) && (decide (q.fold = 0) || decide (q.fold = 1) || decide (0 ≤ findC t q.over))
theorem boxes_tq {w W : World} {c d e : Value} {a0 a1 a2 a3 a4 a5 a6 a7 a8 : Value} (h : Below (w.heap.size + 2) ((w.alloc (.cells #[c,d,e] 27)).alloc (.cells #[a0,a1,a2,a3,a4,a5,a6,a7,a8] 33)) W) :
 (W.cell? ⟨w.heap.size,0,none⟩ = some c ∧ W.cell? ⟨w.heap.size,1,none⟩ = some d ∧ W.cell? ⟨w.heap.size,2,none⟩ = some e) ∧
 (W.cell? ⟨w.heap.size + 1,0,none⟩ = some a0 ∧ W.cell? ⟨w.heap.size + 1,1,none⟩ = some a1 ∧ W.cell? ⟨w.heap.size + 1,2,none⟩ = some a2 ∧ W.cell? ⟨w.heap.size + 1,3,none⟩ = some a3 ∧ W.cell? ⟨w.heap.size + 1,4,none⟩ = some a4 ∧ W.cell? ⟨w.heap.size + 1,5,none⟩ = some a5 ∧ W.cell? ⟨w.heap.size + 1,6,none⟩ = some a6 ∧ W.cell? ⟨w.heap.size + 1,7,none⟩ = some a7 ∧ W.cell? ⟨w.heap.size + 1,8,none⟩ = some a8) ∧
   w.heap.size + 1 < W.heap.size ∧ Below w.heap.size w W:=by
 have h0 : W.heap[w.heap.size]? = some (.cells #[c,d,e] 27 (0,0)):=(h.block _ (by omega)).trans ((((Below.refl _ _).alloc (Nat.le_refl _) _).block _ (by simp)).trans (heap_alloc_new w _))
 have h1 : W.heap[w.heap.size + 1]? = some (.cells #[a0,a1,a2,a3,a4,a5,a6,a7,a8] 33 (0,0)):=(h.block _ (by omega)).trans (alloc2_at w _ _)
 exact ⟨box3 h0,⟨cell_of_row _ _ 0 _ _ _ h1,cell_of_row _ _ 1 _ _ _ h1,cell_of_row _ _ 2 _ _ _ h1,cell_of_row _ _ 3 _ _ _ h1,cell_of_row _ _ 4 _ _ _ h1,cell_of_row _ _ 5 _ _ _ h1,cell_of_row _ _ 6 _ _ _ h1,cell_of_row _ _ 7 _ _ _ h1,cell_of_row _ _ 8 _ _ _ h1⟩,(Array.getElem?_eq_some_iff.1 h1).1,(two_below w _ _).trans (h.mono (by omega))⟩
end
section
open Go.RowKit
set_option maxHeartbeats 1000000
set_option maxRecDepth 100000
theorem all_drop {α : Type} (l : List α) (p : α → Bool) (k : Nat) (h : k < l.length) : (l.drop k).all p = (p l[k] && (l.drop (k + 1)).all p):=by
 rw [List.drop_eq_getElem_cons h,List.all_cons]
theorem named_c [Inhabited Thr] (A : Option Addr) (c : Nat) (t : TabD) (q : QryV) (w : World) (hR : RdT w A c t) (hQ : RdQ w q) : Calls Tryz.prog 28 #[vT t A c,q.val] w fun e w' => e = .returned (.bool (namedB t q)) ∧ Below w.heap.size w w':=by
 have HR:=Ld hR
 have HQ:=Ld hQ
 have hwb:=hQ.wb
 have hcb:=hQ.cb
 have hfo:=hQ.hf
 rcases t with ⟨tn,cols,keys⟩
 rcases q with ⟨qt,fr,tt,wh,qc,qd,ql,qf,qo,AF,cF,AT,cT,AW,cW,AC,cC⟩
 simp only [QryV.val,QryV.cells] at hwb hcb hfo ⊢
 have HNB:=Ld (show namedB ⟨tn,cols,keys⟩ ⟨qt,fr,tt,wh,qc,qd,ql,qf,qo,AF,cF,AT,cT,AW,cW,AC,cC⟩ = ((wh.all fun c => decide (0 ≤ findC ⟨tn,cols,keys⟩ c.col)) && (qc.all fun s => decide (0 ≤ findC ⟨tn,cols,keys⟩ s)) && (decide (qf = 0) || decide (qf = 1) || decide (0 ≤ findC ⟨tn,cols,keys⟩ qo))) from rfl)
 have HBX:=Ld (fun W (h : Below (w.heap.size + 2) ((w.alloc (.cells #[.string tn,.slice A cols.length c,.int .i64 keys] 27)).alloc (.cells #[.string qt,.slice AF fr.length cF,.slice AT tt.length cT,.slice AW wh.length cW,.slice AC qc.length cC,.bool qd,.int .i64 ql,.int .u8 qf,.string qo] 33)) W) => boxes_tq h)
 have HBR:=Ld (Below.refl (w.heap.size + 2) ((w.alloc (.cells #[.string tn,.slice A cols.length c,.int .i64 keys] 27)).alloc (.cells #[.string qt,.slice AF fr.length cF,.slice AT tt.length cT,.slice AW wh.length cW,.slice AC qc.length cC,.bool qd,.int .i64 ql,.int .u8 qf,.string qo] 33)))
 clear hR hQ
 go_enter Tryz.func28,Tryz.ntmps28
 go_wp2
 go_loopw [12] (fun i wr => ∃ k : Nat,k ≤ wh.length ∧ i = .int .i64 k ∧ Hid ((wh.all fun c => decide (0 ≤ findC ⟨tn,cols,keys⟩ c.col)) = (wh.drop k).all fun c => decide (0 ≤ findC ⟨tn,cols,keys⟩ c.col)) ∧ Hid (Below (w.heap.size + 2) ((w.alloc (.cells #[.string tn,.slice A cols.length c,.int .i64 keys] 27)).alloc (.cells #[.string qt,.slice AF fr.length cF,.slice AT tt.length cT,.slice AW wh.length cW,.slice AC qc.length cC,.bool qd,.int .i64 ql,.int .u8 qf,.string qo] 33)) wr)) (fun i _ => wh.length - (intOf i).toNat)
 case atStart => exact ⟨0,Nat.zero_le _,rfl,Ld rfl,HBR⟩
 case round =>
  obtain ⟨k,hk,rfl,ha,hB⟩:=hrel
  obtain ⟨⟨q0,q1,q2⟩,⟨a0,a1,a2,a3,a4,a5,a6,a7,a8⟩,q3,q4⟩:=HBX.out _ hB.out
  have HW:=Ld q4
  clear q4
  have q5 : w.heap.size < wr.heap.size:=by omega
  have HQr:=Ld (HQ.out.below HW.out)
  by_cases hlt : k < wh.length
  ·obtain ⟨ab,ao,rfl⟩ : ∃ ab ao,AW = some ⟨ab,ao,none⟩:=by obtain ⟨b,o,e,_⟩:=HQr.out.wh.2 (show 0 < wh.length by omega);exact ⟨b,o,e⟩
   obtain ⟨p0,p1,p2,p3,p4,p5,p6,p7⟩:=cond_at HQr.out.wh hlt
   have HAD:=Ld (all_drop wh (fun c => decide (0 ≤ findC ⟨tn,cols,keys⟩ c.col)) k hlt)
   simp only at p0 p1 p2 p3 p4 p5 p6 p7
   obtain ⟨x,hx⟩ : ∃ x,wh[k] = x:=⟨_,rfl⟩
   rw [hx] at p0 p1 p2 p3 p4 p5 p6 p7 HAD
   clear hx
   obtain ⟨fi,hfi⟩ : ∃ fi,findC ⟨tn,cols,keys⟩ x.col = fi:=⟨_,rfl⟩
   have HFI:=Ld hfi
   rcases x with ⟨xc,xk,xi⟩
   simp only at p0 p1 p2 p3 p4 p5 p6 p7 HAD HFI
   rw [HFI.out] at HAD
   clear hfi
   by_cases hf0 : fi < 0
   ·rw [decide_eq_false (by omega)] at HAD
    go_wp2_with (go_at_call 59;go_must (refine (column_c A c ⟨tn,cols,keys⟩ xc _ (HR.out.below (HW.out.alloc HW.out.size _))).mono ?_;rintro e w1 ⟨rfl,hb⟩;rw [HFI.out];have HB1:=Ld hb;clear hb))
    go_ret
    exact ⟨ret_eq (by rw [HNB.out,ha.out,HAD.out];simp),(HW.out.alloc HW.out.size _).trans (HB1.out.mono (by have:=HW.out.size;simp;omega))⟩
   ·have hf1 : 0 ≤ fi:=by omega
    rw [decide_eq_true hf1] at HAD
    clear hf0
    go_wp2_with (go_at_call 59;go_must (refine (column_c A c ⟨tn,cols,keys⟩ xc _ (HR.out.below (HW.out.alloc HW.out.size _))).mono ?_;rintro e w1 ⟨rfl,hb⟩;rw [HFI.out];have HB1:=Ld hb;clear hb))
    exact ⟨⟨k + 1,by omega,by go_num,Ld (by rw [ha.out,HAD.out];rfl),Ld ((hB.out.alloc (show w.heap.size + 2 ≤ wr.heap.size by omega) _).trans (HB1.out.mono (by simp;omega)))⟩,by simp [intOf];omega⟩
  ·have HN:=Ld (show wh.drop k = [] from List.drop_eq_nil_of_le (by omega))
   have HWT:=Ld (ha.out.trans (by rw [HN.out]))
   have HB0:=Ld hB.out
   clear ha HN hk hB q0 q1 q2 a0 a1 a2 a3 a4 a5 a6 a7 a8 q3 q5 HQr HW
   obtain ⟨⟨q0,q1,q2⟩,⟨a0,a1,a2,a3,a4,a5,a6,a7,a8⟩,q3,q4⟩:=HBX.out _ HB0.out
   have q5 : w.heap.size < wr.heap.size:=by omega
   clear q4
   go_wp2
   clear q0 q1 q2 a0 a1 a2 a3 a4 a5 a6 a7 a8 q3 q5 hlt
   go_loopw [25] (fun i wr => ∃ k : Nat,k ≤ qc.length ∧ i = .int .i64 k ∧ Hid ((qc.all fun s => decide (0 ≤ findC ⟨tn,cols,keys⟩ s)) = (qc.drop k).all fun s => decide (0 ≤ findC ⟨tn,cols,keys⟩ s)) ∧ Hid (Below (w.heap.size + 2) ((w.alloc (.cells #[.string tn,.slice A cols.length c,.int .i64 keys] 27)).alloc (.cells #[.string qt,.slice AF fr.length cF,.slice AT tt.length cT,.slice AW wh.length cW,.slice AC qc.length cC,.bool qd,.int .i64 ql,.int .u8 qf,.string qo] 33)) wr)) (fun i _ => qc.length - (intOf i).toNat)
   case atStart => exact ⟨0,Nat.zero_le _,rfl,Ld rfl,HB0⟩
   case round =>
    obtain ⟨k,hk,rfl,ha,hB⟩:=hrel
    obtain ⟨⟨q0,q1,q2⟩,⟨a0,a1,a2,a3,a4,a5,a6,a7,a8⟩,q3,q4⟩:=HBX.out _ hB.out
    have HW:=Ld q4
    have q5 : w.heap.size < wr.heap.size:=by omega
    clear q4
    have HQr:=Ld (HQ.out.below HW.out)
    by_cases hlt : k < qc.length
    ·obtain ⟨ab,ao,rfl⟩ : ∃ ab ao,AC = some ⟨ab,ao,none⟩:=by obtain ⟨b,o,e,_⟩:=HQr.out.cl.2 (show 0 < qc.length by omega);exact ⟨b,o,e⟩
     have p0:=str_at HQr.out.cl hlt
     have HAD:=Ld (all_drop qc (fun s => decide (0 ≤ findC ⟨tn,cols,keys⟩ s)) k hlt)
     simp only at p0
     obtain ⟨x,hx⟩ : ∃ x,qc[k] = x:=⟨_,rfl⟩
     rw [hx] at p0 HAD
     clear hx
     obtain ⟨fi,hfi⟩ : ∃ fi,findC ⟨tn,cols,keys⟩ x = fi:=⟨_,rfl⟩
     have HFI:=Ld hfi
     rw [HFI.out] at HAD
     clear hfi
     by_cases hf0 : fi < 0
     ·rw [decide_eq_false (by omega)] at HAD
      go_wp2_with (go_at_call 59;go_must (refine (column_c A c ⟨tn,cols,keys⟩ x _ (HR.out.below HW.out)).mono ?_;rintro e w1 ⟨rfl,hb⟩;rw [HFI.out];have HB1:=Ld hb;clear hb))
      go_ret
      exact ⟨ret_eq (by rw [HNB.out,ha.out,HAD.out];simp),HW.out.trans (HB1.out.mono HW.out.size)⟩
     ·have hf1 : 0 ≤ fi:=by omega
      rw [decide_eq_true hf1] at HAD
      clear hf0
      go_wp2_with (go_at_call 59;go_must (refine (column_c A c ⟨tn,cols,keys⟩ x _ (HR.out.below HW.out)).mono ?_;rintro e w1 ⟨rfl,hb⟩;rw [HFI.out];have HB1:=Ld hb;clear hb))
      exact ⟨⟨k + 1,by omega,by go_num,Ld (by rw [ha.out,HAD.out];rfl),Ld (hB.out.trans (HB1.out.mono (by omega)))⟩,by simp [intOf];omega⟩
    ·have HN:=Ld (show qc.drop k = [] from List.drop_eq_nil_of_le (by omega))
     have HCT:=Ld (ha.out.trans (by rw [HN.out]))
     rw [HWT.out,HCT.out] at HNB
     clear ha HN hk
     by_cases hq0 : qf = 0
     ·have HF:=Ld hq0
      have hb0 : (qf == 0) = true:=by simpa using hq0
      clear hq0
      go_wp2
      go_ret
      exact ⟨ret_eq (by rw [HNB.out,HF.out];rfl),HW.out⟩
     ·by_cases hq1 : qf = 1
      ·have HF:=Ld hq1
       have hb0 : (qf == 0) = false:=by simpa using hq0
       have hb1 : (qf == 1) = true:=by simpa using hq1
       clear hq0 hq1
       go_wp2
       go_ret
       exact ⟨ret_eq (by rw [HNB.out,HF.out];rfl),HW.out⟩
      ·have hb0 : (qf == 0) = false:=by simpa using hq0
       have hb1 : (qf == 1) = false:=by simpa using hq1
       rw [decide_eq_false hq0,decide_eq_false hq1] at HNB
       clear hq0 hq1
       obtain ⟨fi,hfi⟩ : ∃ fi,findC ⟨tn,cols,keys⟩ qo = fi:=⟨_,rfl⟩
       have HFI:=Ld hfi
       clear hfi
       go_wp2_with (go_at_call 59;go_must (refine (column_c A c ⟨tn,cols,keys⟩ qo _ (HR.out.below HW.out)).mono ?_;rintro e w1 ⟨rfl,hb⟩;rw [HFI.out];have HB1:=Ld hb;clear hb))
       go_ret
       exact ⟨ret_eq (by rw [HNB.out,HFI.out];simp),HW.out.trans (HB1.out.mono HW.out.size)⟩
end
section
open Go.RowKit
set_option maxHeartbeats 1000000
set_option maxRecDepth 100000
theorem findL_lt : ∀ (l : List ColD) (s : List UInt8) (i : Nat),0 ≤ findL l s i → (i : Int) ≤ findL l s i ∧ findL l s i < i + l.length
 | [],s,i,h => by simp [findL] at h
 | c :: l,s,i,h => by
   rw [findL] at h ⊢
   split
   ·simp only [List.length_cons];omega
   ·rename_i hn
    rw [if_neg hn] at h
    have:=findL_lt l s (i + 1) h
    simp only [List.length_cons]
    omega
def kindAt (t : TabD) (i : Int) : Int:=match t.cols[i.toNat]? with | some c => c.kind | none => 0
def foldsB (t : TabD) (q : QryV) : Bool :=
 if q.fold = 0 then decide (q.over.data.toList = []) else if q.fold = 1 then decide (q.over.data.toList = []) && decide (q.cols.length = 0)
 else if q.fold = 4 ∨ q.fold = 5 then (decide (kindAt t (findC t q.over) = 3) || decide (kindAt t (findC t q.over) = 4)) && decide (q.cols.length = 0)
 else if q.fold = 2 ∨ q.fold = 3 then decide (q.cols.length = 0) else false
theorem emptyB (s : ByteArray) : (s.toList == []) = decide (s.data.toList = []):=by
 rw [ByteArray.toList_eq]
 by_cases h : s.data.toList = []
 ·rw [h];rfl
 ·rw [decide_eq_false h,beq_eq_false_iff_ne];exact h
theorem lenZ (n : Nat) : ((n : Int) == 0) = decide (n = 0):=by
 by_cases h : n = 0
 ·rw [h];rfl
 ·rw [decide_eq_false h,beq_eq_false_iff_ne];omega
theorem folds_c [Inhabited Thr] (A : Option Addr) (c : Nat) (t : TabD) (q : QryV) (w : World) (hR : RdT w A c t) (hQ : RdQ w q) (hn : 2 ≤ q.fold → 0 ≤ findC t q.over) : Calls Tryz.prog 30 #[vT t A c,q.val] w fun e w' => e = .returned (.bool (foldsB t q)) ∧ Below w.heap.size w w':=by
 have HR:=Ld hR
 have HQ:=Ld hQ
 have HN:=Ld hn
 have hcb:=hQ.cb
 have hfo:=hQ.hf
 have hcl:=hR.hb
 rcases t with ⟨tn,cols,keys⟩
 rcases q with ⟨qt,fr,tt,wh,qc,qd,ql,qf,qo,AF,cF,AT,cT,AW,cW,AC,cC⟩
 simp only [QryV.val,QryV.cells] at hcb hfo hcl HN ⊢
 have HBX:=Ld (fun W (h : Below (w.heap.size + 2) ((w.alloc (.cells #[.string tn,.slice A cols.length c,.int .i64 keys] 27)).alloc (.cells #[.string qt,.slice AF fr.length cF,.slice AT tt.length cT,.slice AW wh.length cW,.slice AC qc.length cC,.bool qd,.int .i64 ql,.int .u8 qf,.string qo] 33)) W) => boxes_tq h)
 have HBR:=Ld (Below.refl (w.heap.size + 2) ((w.alloc (.cells #[.string tn,.slice A cols.length c,.int .i64 keys] 27)).alloc (.cells #[.string qt,.slice AF fr.length cF,.slice AT tt.length cT,.slice AW wh.length cW,.slice AC qc.length cC,.bool qd,.int .i64 ql,.int .u8 qf,.string qo] 33)))
 have HFB:=Ld (show foldsB ⟨tn,cols,keys⟩ ⟨qt,fr,tt,wh,qc,qd,ql,qf,qo,AF,cF,AT,cT,AW,cW,AC,cC⟩ = if qf = 0 then decide (qo.data.toList = []) else if qf = 1 then decide (qo.data.toList = []) && decide (qc.length = 0)
  else if qf = 4 ∨ qf = 5 then (decide (kindAt ⟨tn,cols,keys⟩ (findC ⟨tn,cols,keys⟩ qo) = 3) || decide (kindAt ⟨tn,cols,keys⟩ (findC ⟨tn,cols,keys⟩ qo) = 4)) && decide (qc.length = 0)
  else if qf = 2 ∨ qf = 3 then decide (qc.length = 0) else false from rfl)
 have HEM:=Ld (emptyB qo)
 clear hR hQ hn
 have HLZ:=Ld (lenZ qc.length)
 obtain ⟨eb,heb⟩ : ∃ eb,(qo.toList == []) = eb:=⟨_,rfl⟩
 have HEB:=Ld heb
 obtain ⟨lb,hlb⟩ : ∃ lb,((qc.length : Int) == 0) = lb:=⟨_,rfl⟩
 have HLB:=Ld hlb
 by_cases h0 : qf = 0
 ·subst h0
  rw [if_pos rfl] at HFB
  go_enter Tryz.func30,Tryz.ntmps30
  go_wp2
  go_ret
  exact ⟨ret_eq (by rw [HFB.out,← HEM.out,HEB.out];rfl),two_below w _ _⟩
 ·rw [if_neg h0] at HFB
  have e0 : (qf == 0) = false:=by simpa using h0
  by_cases h1 : qf = 1
  ·subst h1
   rw [if_pos rfl,← HEM.out,← HLZ.out,HEB.out,HLB.out] at HFB
   clear h0 e0
   cases eb
   all_goals
    go_enter Tryz.func30,Tryz.ntmps30
    go_wp2
    go_ret
    exact ⟨ret_eq (by rw [HFB.out];rfl),two_below w _ _⟩
  ·rw [if_neg h1] at HFB
   have e1 : (qf == 1) = false:=by simpa using h1
   by_cases h45 : qf = 4 ∨ qf = 5
   ·rw [if_pos h45,← HLZ.out,HLB.out] at HFB
    have HFD:=Ld (HN.out (by omega))
    have HLT:=Ld (findL_lt cols qo.data.toList 0 HFD.out)
    obtain ⟨fi,hfi⟩ : ∃ fi : Int,findC ⟨tn,cols,keys⟩ qo = fi:=⟨_,rfl⟩
    obtain ⟨k,hk⟩ : ∃ k : Nat,(k : Int) = fi:=⟨fi.toNat,by have:=HFD.out;omega⟩
    have hkc : k < cols.length:=by have h2:=HLT.out.2;have h3 : findL cols qo.data.toList 0 = fi:=hfi;omega
    have HFI:=Ld (show findC ⟨tn,cols,keys⟩ qo = (k : Int) by rw [hfi,hk])
    rw [HFI.out] at HFB
    obtain ⟨ab,ao,rfl⟩ : ∃ ab ao,A = some ⟨ab,ao,none⟩:=by obtain ⟨b,o,e,_⟩:=HR.out.rd.2 (show 0 < cols.length by omega);exact ⟨b,o,e⟩
    obtain ⟨kd,hkd⟩ : ∃ kd,cols[k].kind = kd:=⟨_,rfl⟩
    have HCO:=Ld (fun W (h : Below w.heap.size w W) => (col_at (HR.out.below h).rd hkc).2.1)
    simp only [hkd] at HCO
    have HKA:=Ld (show kindAt ⟨tn,cols,keys⟩ (k : Int) = kd by simp [kindAt,hkc,hkd])
    rw [HKA.out] at HFB
    clear hfi hk hkd
    have hreg : ∀ (qf' : Int),qf' = qf → True:=fun _ _ => trivial
    rcases h45 with rfl | rfl
    all_goals
     clear h0 h1 e0 e1 hreg
     go_enter Tryz.func30,Tryz.ntmps30
     go_wp2
     refine wp_region_sched (S:=fun W => Below (w.heap.size + 2) ((w.alloc (.cells #[.string tn,.slice (some ⟨ab,ao,none⟩) cols.length c,.int .i64 keys] 27)).alloc (.cells #[.string qt,.slice AF fr.length cF,.slice AT tt.length cT,.slice AW wh.length cW,.slice AC qc.length cC,.bool qd,.int .i64 ql,.int .u8 _,.string qo] 33)) W) [(0,true),(1,true),(2,true),(3,true),(4,true),(5,false),(6,true),(7,true),(8,true),(9,true)] (by kernel_rfl) (by kernel_rfl) (by kernel_rfl) (fun _ _ d _ _ h => by cases d <;> exact h) (Below.refl _ _).drew ?_
     repeat (apply sched_take;(exact rfl);rfl;(intro W hW;obtain ⟨⟨q0,q1,q2⟩,⟨a0,a1,a2,a3,a4,a5,a6,a7,a8⟩,q3,q4⟩:=HBX.out W hW;clear q4;go_simp;(try with_reducible rfl));simp only [Act.put,List.setIfInBounds_toArray,List.set_cons_zero,List.set_cons_succ])
     apply sched_run;(exact rfl);rfl;intro K hK;go_simp
     refine (column_c (some ⟨ab,ao,none⟩) c ⟨tn,cols,keys⟩ qo _ (HR.out.below (two_below w _ _).drew)).mono ?_
     rintro e w1 ⟨rfl,hb⟩
     rw [HFI.out]
     have HB1:=Ld ((Below.refl (w.heap.size + 2) ((w.alloc (.cells #[.string tn,.slice (some ⟨ab,ao,none⟩) cols.length c,.int .i64 keys] 27)).alloc (.cells #[.string qt,.slice AF fr.length cF,.slice AT tt.length cT,.slice AW wh.length cW,.slice AC qc.length cC,.bool qd,.int .i64 ql,.int .u8 _,.string qo] 33))).drew.trans (hb.mono (show w.heap.size + 2 ≤ _ by simp)))
     refine hK.out _ _ HB1.out (fun _ => ?_)
     clear hK K hb
     try simp only [Act.put,List.setIfInBounds_toArray,List.set_cons_zero,List.set_cons_succ]
     repeat (apply sched_take;(exact rfl);rfl;(intro W hW;have p1:=HCO.out W (HBX.out W hW).2.2.2;go_simp;(try with_reducible rfl));simp only [Act.put,List.setIfInBounds_toArray,List.set_cons_zero,List.set_cons_succ])
     refine sched_done ?_
     obtain ⟨⟨q0,q1,q2⟩,⟨a0,a1,a2,a3,a4,a5,a6,a7,a8⟩,q3,q4⟩:=HBX.out w1 HB1.out
     have HW1:=Ld q4
     clear q4
     by_cases h3 : kd = 3
     ·have e3 : (kd != 3) = false:=by rw [h3];rfl
      rw [decide_eq_true h3] at HFB
      clear h3
      go_wp2
      go_ret
      exact ⟨ret_eq (by rw [HFB.out];rfl),HW1.out⟩
     ·have e3 : (kd != 3) = true:=by rw [bne_iff_ne];exact h3
      rw [decide_eq_false h3] at HFB
      clear h3
      by_cases h4 : kd = 4
      ·have e4 : (kd != 4) = false:=by rw [h4];rfl
       rw [decide_eq_true h4] at HFB
       clear h4
       go_wp2
       go_ret
       exact ⟨ret_eq (by rw [HFB.out];rfl),HW1.out⟩
      ·have e4 : (kd != 4) = true:=by rw [bne_iff_ne];exact h4
       rw [decide_eq_false h4] at HFB
       clear h4
       go_wp2
       go_ret
       exact ⟨ret_eq (by rw [HFB.out];rfl),HW1.out⟩
   ·rw [if_neg h45] at HFB
    have e4 : (qf == 4) = false:=by rw [beq_eq_false_iff_ne];exact fun h => h45 (.inl h)
    have e5 : (qf == 5) = false:=by rw [beq_eq_false_iff_ne];exact fun h => h45 (.inr h)
    by_cases h23 : qf = 2 ∨ qf = 3
    ·rw [if_pos h23,← HLZ.out,HLB.out] at HFB
     rcases h23 with rfl | rfl
     all_goals
      clear h0 h1 e0 e1 h45 e4 e5
      go_enter Tryz.func30,Tryz.ntmps30
      go_wp2
      go_ret
      exact ⟨ret_eq (by rw [HFB.out];rfl),two_below w _ _⟩
    ·rw [if_neg h23] at HFB
     have e2 : (qf == 2) = false:=by rw [beq_eq_false_iff_ne];exact fun h => h23 (.inl h)
     have e3 : (qf == 3) = false:=by rw [beq_eq_false_iff_ne];exact fun h => h23 (.inr h)
     clear h0 h1 h45 h23
     go_enter Tryz.func30,Tryz.ntmps30
     go_wp2
     go_ret
     exact ⟨ret_eq (by rw [HFB.out];rfl),two_below w _ _⟩
end
section
open Go.RowKit
set_option maxHeartbeats 2000000
set_option maxRecDepth 100000
theorem boxes_fq {w W : World} {f g c d e : Value} {a0 a1 a2 a3 a4 a5 a6 a7 a8 : Value} (h : Below (w.heap.size + 3) (((w.alloc (.cells #[f,g] 24)).alloc (.cells #[c,d,e] 27)).alloc (.cells #[a0,a1,a2,a3,a4,a5,a6,a7,a8] 33)) W) :
 (W.cell? ⟨w.heap.size,0,none⟩ = some f ∧ W.cell? ⟨w.heap.size,1,none⟩ = some g) ∧ (W.cell? ⟨w.heap.size + 1,0,none⟩ = some c ∧ W.cell? ⟨w.heap.size + 1,1,none⟩ = some d ∧ W.cell? ⟨w.heap.size + 1,2,none⟩ = some e) ∧
 (W.cell? ⟨w.heap.size + 2,0,none⟩ = some a0 ∧ W.cell? ⟨w.heap.size + 2,1,none⟩ = some a1 ∧ W.cell? ⟨w.heap.size + 2,2,none⟩ = some a2 ∧ W.cell? ⟨w.heap.size + 2,3,none⟩ = some a3 ∧ W.cell? ⟨w.heap.size + 2,4,none⟩ = some a4 ∧ W.cell? ⟨w.heap.size + 2,5,none⟩ = some a5 ∧ W.cell? ⟨w.heap.size + 2,6,none⟩ = some a6 ∧ W.cell? ⟨w.heap.size + 2,7,none⟩ = some a7 ∧ W.cell? ⟨w.heap.size + 2,8,none⟩ = some a8) ∧
   w.heap.size + 2 < W.heap.size ∧ Below w.heap.size w W:=by
 have hh:=below_a (w:=(w.alloc (.cells #[f,g] 24)).alloc (.cells #[c,d,e] 27)) (w1:=W) (h.mono (by simp))
 have h1 : W.heap[w.heap.size + 2]? = some (.cells #[a0,a1,a2,a3,a4,a5,a6,a7,a8] 33 (0,0)):=(h.block _ (by omega)).trans (alloc3_at w _ _ _)
 obtain ⟨p,q,r,s⟩:=boxes_ft (w:=w) (W:=W) (hh.mono (by simp))
 exact ⟨p,q,⟨cell_of_row _ _ 0 _ _ _ h1,cell_of_row _ _ 1 _ _ _ h1,cell_of_row _ _ 2 _ _ _ h1,cell_of_row _ _ 3 _ _ _ h1,cell_of_row _ _ 4 _ _ _ h1,cell_of_row _ _ 5 _ _ _ h1,cell_of_row _ _ 6 _ _ _ h1,cell_of_row _ _ 7 _ _ _ h1,cell_of_row _ _ 8 _ _ _ h1⟩,(Array.getElem?_eq_some_iff.1 h1).1,s⟩
def condB (c : CondD) : Bool:=decide (1 ≤ c.kind) && decide (c.kind ≤ 6) && decide (chkL [c.item.data] = 0)
def chkQ (pg wd : Int) (t : TabD) (q : QryV) : Nat :=
 if chkT pg wd t ≠ 0 then chkT pg wd t else if q.table.data.toList ≠ t.name.data.toList then 250
 else if (bndR pg wd t (VI.dataL q.fr)).2.2 ≠ 0 then (bndR pg wd t (VI.dataL q.fr)).2.2 else if (bndR pg wd t (VI.dataL q.tt)).2.2 ≠ 0 then (bndR pg wd t (VI.dataL q.tt)).2.2
 else if namedB t q = false then 260 else if (q.wh.all condB) = false then 261 else if foldsB t q = false then 261 else if q.limit < 0 then 2 else 0
theorem box2 {w : World} {g : Nat} {a b : Value} {t : TypeId} (hg : w.heap[g]? = some (.cells #[a,b] t (0,0))) : w.cell? ⟨g,0,none⟩ = some a ∧ w.cell? ⟨g,1,none⟩ = some b:=⟨cell_of_row _ _ 0 _ _ _ hg,cell_of_row _ _ 1 _ _ _ hg⟩
theorem named_over {t : TabD} {q : QryV} (h : namedB t q = true) (hf : 2 ≤ q.fold) : 0 ≤ findC t q.over:=by
 rw [namedB,Bool.and_eq_true,decide_eq_false (show ¬ q.fold = 0 by omega),decide_eq_false (show ¬ q.fold = 1 by omega)] at h
 simpa using h.2
theorem Check_query_c [Inhabited Thr] (pg wd : Int) (A : Option Addr) (c : Nat) (t : TabD) (q : QryV) (w : World) (hR : RdT w A c t) (hQ : RdQ w q) (hcell : ∃ m,w.cell? ⟨1,0,none⟩ = some (.int .i64 m)) :
 Calls Tryz.prog 12 #[vF pg wd,vT t A c,q.val] w fun e w' => e = .returned (.int .i64 (chkQ pg wd t q)) ∧ Below w.heap.size w w':=by
 have HR:=Ld hR
 have HQ:=Ld hQ
 have HC:=Ld hcell
 have hwb:=hQ.wb
 have hll:=hQ.hl
 rcases t with ⟨tn,cols,keys⟩
 rcases q with ⟨qt,fr,tt,wh,qc,qd,ql,qf,qo,AF,cF,AT,cT,AW,cW,AC,cC⟩
 simp only [QryV.val,QryV.cells] at hwb hll ⊢
 have HBX:=Ld (fun W (h : Below (w.heap.size + 3) (((w.alloc (.cells #[.int .i64 pg,.int .i64 wd] 24)).alloc (.cells #[.string tn,.slice A cols.length c,.int .i64 keys] 27)).alloc (.cells #[.string qt,.slice AF fr.length cF,.slice AT tt.length cT,.slice AW wh.length cW,.slice AC qc.length cC,.bool qd,.int .i64 ql,.int .u8 qf,.string qo] 33)) W) => boxes_fq h)
 have HW0:=Ld (show Below w.heap.size w (((w.alloc (.cells #[.int .i64 pg,.int .i64 wd] 24)).alloc (.cells #[.string tn,.slice A cols.length c,.int .i64 keys] 27)).alloc (.cells #[.string qt,.slice AF fr.length cF,.slice AT tt.length cT,.slice AW wh.length cW,.slice AC qc.length cC,.bool qd,.int .i64 ql,.int .u8 qf,.string qo] 33)) from (two_below w _ _).alloc (by simp;omega) _)
 have HCQ:=Ld (show chkQ pg wd ⟨tn,cols,keys⟩ ⟨qt,fr,tt,wh,qc,qd,ql,qf,qo,AF,cF,AT,cT,AW,cW,AC,cC⟩ = if chkT pg wd ⟨tn,cols,keys⟩ ≠ 0 then chkT pg wd ⟨tn,cols,keys⟩ else if qt.data.toList ≠ tn.data.toList then 250
  else if (bndR pg wd ⟨tn,cols,keys⟩ (VI.dataL fr)).2.2 ≠ 0 then (bndR pg wd ⟨tn,cols,keys⟩ (VI.dataL fr)).2.2 else if (bndR pg wd ⟨tn,cols,keys⟩ (VI.dataL tt)).2.2 ≠ 0 then (bndR pg wd ⟨tn,cols,keys⟩ (VI.dataL tt)).2.2
  else if namedB ⟨tn,cols,keys⟩ ⟨qt,fr,tt,wh,qc,qd,ql,qf,qo,AF,cF,AT,cT,AW,cW,AC,cC⟩ = false then 260 else if (wh.all condB) = false then 261 else if foldsB ⟨tn,cols,keys⟩ ⟨qt,fr,tt,wh,qc,qd,ql,qf,qo,AF,cF,AT,cT,AW,cW,AC,cC⟩ = false then 261 else if ql < 0 then 2 else 0 from rfl)
 clear hR hQ hcell
 by_cases h0 : chkT pg wd ⟨tn,cols,keys⟩ = 0
 ·rw [if_neg (by rw [h0];decide)] at HCQ
  have HOK:=Ld (chkT_ok h0)
  have hz0:=zz h0
  clear h0
  by_cases hnm : qt.data.toList = tn.data.toList
  ·rw [if_neg (by rw [hnm];simp)] at HCQ
   have hnb : (qt.toList == tn.toList) = true:=by rw [eqB];exact decide_eq_true hnm
   clear hnm
   go_enter Tryz.func12,Tryz.ntmps12
   go_wp2_with (go_at_call 27;go_must (refine (Check_rows_c pg wd A c ⟨tn,cols,keys⟩ _ (HR.out.below HW0.out) (cell_keep HC.out (Nat.le_refl _) HW0.out)).mono ?_;rintro e w1 ⟨rfl,hb1⟩;have HB1:=Ld (hb1.mono (show w.heap.size + 3 ≤ _ by simp));obtain ⟨⟨f0,f1⟩,⟨q0,q1,q2⟩,⟨a0,a1,a2,a3,a4,a5,a6,a7,a8⟩,q3,q4⟩:=HBX.out _ HB1.out;have HW1:=Ld q4;clear hb1 q4))
   have HRB:=Ld (show (w1.alloc (.cells #[.slice AF fr.length cF,.slice AT tt.length cT] 28)).heap[w1.heap.size]? = some (.cells #[.slice AF fr.length cF,.slice AT tt.length cT] 28 (0,0)) from heap_alloc_new w1 _)
   have HB1':=Ld (HB1.out.alloc (show w.heap.size + 3 ≤ w1.heap.size by omega) (.cells #[.slice AF fr.length cF,.slice AT tt.length cT] 28))
   have hg1 : w.heap.size + 3 ≤ w1.heap.size:=by omega
   clear f0 f1 q0 q1 q2 a0 a1 a2 a3 a4 a5 a6 a7 a8 q3
   have HRL:=Ld hg1
   clear hg1
   obtain ⟨bf,hbf⟩ : ∃ b,bndR pg wd ⟨tn,cols,keys⟩ (VI.dataL fr) = b:=⟨_,rfl⟩
   obtain ⟨bt,hbt⟩ : ∃ b,bndR pg wd ⟨tn,cols,keys⟩ (VI.dataL tt) = b:=⟨_,rfl⟩
   have HBF:=Ld hbf
   have HBT:=Ld hbt
   rw [HBF.out,HBT.out] at HCQ
   clear hbf hbt
   go_loopw [32] (fun i wr => ∃ k : Nat,k ≤ 2 ∧ i = .int .i64 k ∧ Hid (1 ≤ k → bf.2.2 = 0) ∧ Hid (2 ≤ k → bt.2.2 = 0) ∧ Hid (wr.heap[w1.heap.size]? = some (.cells #[.slice AF fr.length cF,.slice AT tt.length cT] 28 (0,0))) ∧ Hid (Below (w.heap.size + 3) (((w.alloc (.cells #[.int .i64 pg,.int .i64 wd] 24)).alloc (.cells #[.string tn,.slice A cols.length c,.int .i64 keys] 27)).alloc (.cells #[.string qt,.slice AF fr.length cF,.slice AT tt.length cT,.slice AW wh.length cW,.slice AC qc.length cC,.bool qd,.int .i64 ql,.int .u8 qf,.string qo] 33)) wr)) (fun i _ => 2 - (intOf i).toNat)
   case atStart => exact ⟨0,by omega,rfl,Ld (by omega),Ld (by omega),HRB,HB1'⟩
   case round =>
    obtain ⟨k,hk,rfl,h1,h2,hrow,hB⟩:=hrel
    obtain ⟨⟨f0,f1⟩,⟨q0,q1,q2⟩,⟨a0,a1,a2,a3,a4,a5,a6,a7,a8⟩,q3,q4⟩:=HBX.out _ hB.out
    have HW:=Ld q4
    have q5 : w.heap.size < wr.heap.size:=by omega
    have q6 : w.heap.size + 1 < wr.heap.size:=by omega
    clear q4
    obtain ⟨r0,r1⟩:=box2 hrow.out
    have rlt : w1.heap.size < wr.heap.size:=(Array.getElem?_eq_some_iff.1 hrow.out).1
    by_cases hk0 : k = 0
    ·subst hk0
     by_cases e0 : bf.2.2 = 0
     ·have z0:=zz e0
      have E0:=Ld e0
      clear e0
      go_wp2_with (go_at_call 25;go_must (refine (Bounds_c pg wd A c ⟨tn,cols,keys⟩ AF cF fr _ (HR.out.below HW.out) (HQ.out.below HW.out).fr (cell_keep HC.out (Nat.le_refl _) HW.out)).mono ?_;rintro e w2 ⟨rfl,hb⟩;rw [HBF.out];have HB2:=Ld hb;clear hb))
      exact ⟨⟨1,by omega,by go_num,Ld (fun _ => E0.out),Ld (by omega),Ld ((HB2.out.block _ rlt).trans hrow.out),Ld (hB.out.trans (HB2.out.mono (show w.heap.size + 3 ≤ wr.heap.size by omega)))⟩,by simp [intOf]⟩
     ·have z0:=nz e0
      rw [if_pos e0] at HCQ
      clear e0
      go_wp2_with (go_at_call 25;go_must (refine (Bounds_c pg wd A c ⟨tn,cols,keys⟩ AF cF fr _ (HR.out.below HW.out) (HQ.out.below HW.out).fr (cell_keep HC.out (Nat.le_refl _) HW.out)).mono ?_;rintro e w2 ⟨rfl,hb⟩;rw [HBF.out];have HB2:=Ld hb;clear hb))
      go_ret
      exact ⟨ret_eq (by rw [HCQ.out];rfl),HW.out.trans (HB2.out.mono HW.out.size)⟩
    ·by_cases hk1 : k = 1
     ·subst hk1
      rw [if_neg (by rw [h1.out (Nat.le_refl _)];decide)] at HCQ
      by_cases e0 : bt.2.2 = 0
      ·have z0:=zz e0
       have E0:=Ld e0
       clear e0 hk0
       go_wp2_with (go_at_call 25;go_must (refine (Bounds_c pg wd A c ⟨tn,cols,keys⟩ AT cT tt _ (HR.out.below HW.out) (HQ.out.below HW.out).tt (cell_keep HC.out (Nat.le_refl _) HW.out)).mono ?_;rintro e w2 ⟨rfl,hb⟩;rw [HBT.out];have HB2:=Ld hb;clear hb))
       exact ⟨⟨2,by omega,by go_num,Ld (fun _ => h1.out (Nat.le_refl _)),Ld (fun _ => E0.out),Ld ((HB2.out.block _ rlt).trans hrow.out),Ld (hB.out.trans (HB2.out.mono (show w.heap.size + 3 ≤ wr.heap.size by omega)))⟩,by simp [intOf]⟩
      ·have z0:=nz e0
       rw [if_pos e0] at HCQ
       clear e0 hk0
       go_wp2_with (go_at_call 25;go_must (refine (Bounds_c pg wd A c ⟨tn,cols,keys⟩ AT cT tt _ (HR.out.below HW.out) (HQ.out.below HW.out).tt (cell_keep HC.out (Nat.le_refl _) HW.out)).mono ?_;rintro e w2 ⟨rfl,hb⟩;rw [HBT.out];have HB2:=Ld hb;clear hb))
       go_ret
       exact ⟨ret_eq (by rw [HCQ.out];rfl),HW.out.trans (HB2.out.mono HW.out.size)⟩
     ·obtain rfl : k = 2:=by omega
      rw [if_neg (by rw [h1.out (by omega)];decide),if_neg (by rw [h2.out (Nat.le_refl _)];decide)] at HCQ
      clear hk0 hk1 hk h1 h2
      by_cases hnd : namedB ⟨tn,cols,keys⟩ ⟨qt,fr,tt,wh,qc,qd,ql,qf,qo,AF,cF,AT,cT,AW,cW,AC,cC⟩ = true
      ·rw [if_neg (by rw [hnd];decide)] at HCQ
       have HND:=Ld hnd
       clear hnd
       go_wp2_with (go_at_call 28;go_must (refine (named_c A c ⟨tn,cols,keys⟩ ⟨qt,fr,tt,wh,qc,qd,ql,qf,qo,AF,cF,AT,cT,AW,cW,AC,cC⟩ _ (HR.out.below HW.out) (HQ.out.below HW.out)).mono ?_;rintro e w2 ⟨rfl,hb⟩;rw [HND.out];have HB2:=Ld (hB.out.trans (hb.mono (show w.heap.size + 3 ≤ wr.heap.size by omega)));clear hb f0 f1 q0 q1 q2 a0 a1 a2 a3 a4 a5 a6 a7 a8 q3 q5 q6;obtain ⟨⟨f0,f1⟩,⟨q0,q1,q2⟩,⟨a0,a1,a2,a3,a4,a5,a6,a7,a8⟩,q3,q4⟩:=HBX.out _ HB2.out;have q5 : w.heap.size < w2.heap.size:=(by omega);have q6 : w.heap.size + 1 < w2.heap.size:=(by omega);have HW2:=Ld q4;clear q4))
       clear f0 f1 q0 q1 q2 a0 a1 a2 a3 a4 a5 a6 a7 a8 q3 q5 q6 r0 r1 rlt HRB HB1' HRL hrow hB HW
       go_loopw [55] (fun i wr => ∃ k : Nat,k ≤ wh.length ∧ i = .int .i64 k ∧ Hid (wh.all condB = (wh.drop k).all condB) ∧ Hid (Below (w.heap.size + 3) (((w.alloc (.cells #[.int .i64 pg,.int .i64 wd] 24)).alloc (.cells #[.string tn,.slice A cols.length c,.int .i64 keys] 27)).alloc (.cells #[.string qt,.slice AF fr.length cF,.slice AT tt.length cT,.slice AW wh.length cW,.slice AC qc.length cC,.bool qd,.int .i64 ql,.int .u8 qf,.string qo] 33)) wr)) (fun i _ => wh.length - (intOf i).toNat)
       case atStart => exact ⟨0,by omega,rfl,Ld rfl,HB2⟩
       case round =>
        obtain ⟨k,hk,rfl,ha,hB⟩:=hrel
        obtain ⟨⟨f0,f1⟩,⟨q0,q1,q2⟩,⟨a0,a1,a2,a3,a4,a5,a6,a7,a8⟩,q3,q4⟩:=HBX.out _ hB.out
        have HW:=Ld q4
        have q5 : w.heap.size < wr.heap.size:=by omega
        have q6 : w.heap.size + 1 < wr.heap.size:=by omega
        clear q4
        have HQr:=Ld (HQ.out.below HW.out)
        by_cases hlt : k < wh.length
        ·obtain ⟨ab,ao,rfl⟩ : ∃ ab ao,AW = some ⟨ab,ao,none⟩:=by obtain ⟨b,o,e,_⟩:=HQr.out.wh.2 (show 0 < wh.length by omega);exact ⟨b,o,e⟩
         obtain ⟨p0,p1,p2,p3,p4,p5,p6,p7⟩:=cond_at HQr.out.wh hlt
         have HAD:=Ld (all_drop wh condB k hlt)
         have HX:=Ld (HQ.out.wx _ (List.getElem_mem hlt))
         simp only at p0 p1 p2 p3 p4 p5 p6 p7 HX
         obtain ⟨x,hx⟩ : ∃ x,wh[k] = x:=⟨_,rfl⟩
         rw [hx] at p0 p1 p2 p3 p4 p5 p6 p7 HAD HX
         clear hx
         rcases x with ⟨xc,xk,⟨ik,ib,iN,iF,it,iA,ic,il⟩⟩
         simp only [VI.k,VI.b,VI.n,VI.f,VI.t,VI.A,VI.c,VI.l] at p0 p1 p2 p3 p4 p5 p6 p7 HX
         have HCB:=Ld (show condB ⟨xc,xk,.mk ik ib iN iF it iA ic il⟩ = (decide (1 ≤ xk) && decide (xk ≤ 6) && decide (chkL (VI.dataL [VI.mk ik ib iN iF it iA ic il]) = 0)) by rw [condB,show VI.dataL [VI.mk ik ib iN iF it iA ic il] = [(VI.mk ik ib iN iF it iA ic il).data] by simp [VI.dataL]])
         have HW0:=Ld (show Below w.heap.size w (wr.alloc (.cells #[.string xc,.int .u8 xk,.int .u8 ik,.bool ib,.int .i64 iN,.float .f64 iF,.string it,.slice iA il.length ic] 69)) from HW.out.alloc HW.out.size _)
         have HRX:=Ld (one_rd HX.out.1 (wr.alloc (.cells #[.string xc,.int .u8 xk,.int .u8 ik,.bool ib,.int .i64 iN,.float .f64 iF,.string it,.slice iA il.length ic] 69)) HW0.out (g:=wr.heap.size + 1) (by simp) rfl)
         have HB0:=Ld (hB.out.alloc (show w.heap.size + 3 ≤ wr.heap.size by omega) (.cells #[.string xc,.int .u8 xk,.int .u8 ik,.bool ib,.int .i64 iN,.float .f64 iF,.string it,.slice iA il.length ic] 69))
         obtain ⟨ce,hce⟩ : ∃ ce,chkL (VI.dataL [VI.mk ik ib iN iF it iA ic il]) = ce:=⟨_,rfl⟩
         have HCE:=Ld hce
         rw [HCE.out] at HCB
         clear hce
         by_cases g1 : xk < 1
         ·rw [decide_eq_false (by omega)] at HCB
          rw [if_pos (by rw [ha.out,HAD.out,HCB.out];rfl)] at HCQ
          go_wp2
          go_ret
          exact ⟨ret_eq (by rw [HCQ.out];rfl),HW0.out⟩
         ·by_cases g2 : 6 < xk
          ·rw [decide_eq_false (show ¬ xk ≤ 6 by omega)] at HCB
           rw [if_pos (by rw [ha.out,HAD.out,HCB.out];simp)] at HCQ
           go_wp2
           go_ret
           exact ⟨ret_eq (by rw [HCQ.out];rfl),HW0.out⟩
          ·rw [decide_eq_true (show xk ≤ 6 by omega),decide_eq_true (show 1 ≤ xk by omega)] at HCB
           by_cases e0 : ce = 0
           ·have z0:=zz e0
            rw [decide_eq_true e0] at HCB
            clear e0
            go_wp2_with (go_at_call 29;go_must (refine (Check_c _ 1 [VI.mk ik ib iN iF it iA ic il] _ HRX.out).mono ?_;rintro e w3 ⟨rfl,hb⟩;rw [HCE.out];have HB3:=Ld ((HB0.out.alloc (by simp;omega) _).trans (hb.mono (by simp;omega)));clear hb))
            exact ⟨⟨k + 1,by omega,by go_num,Ld (by rw [ha.out,HAD.out,HCB.out];rfl),HB3⟩,by simp [intOf];omega⟩
           ·have z0:=nz e0
            rw [decide_eq_false e0] at HCB
            rw [if_pos (by rw [ha.out,HAD.out,HCB.out];rfl)] at HCQ
            clear e0
            go_wp2_with (go_at_call 29;go_must (refine (Check_c _ 1 [VI.mk ik ib iN iF it iA ic il] _ HRX.out).mono ?_;rintro e w3 ⟨rfl,hb⟩;rw [HCE.out];have HB3:=Ld ((HB0.out.alloc (by simp;omega) _).trans (hb.mono (by simp;omega)));clear hb))
            go_ret
            exact ⟨ret_eq (by rw [HCQ.out];rfl),(HBX.out _ HB3.out).2.2.2.2⟩
        ·have HN:=Ld (show wh.drop k = [] from List.drop_eq_nil_of_le (by omega))
         rw [if_neg (by rw [ha.out,HN.out];simp)] at HCQ
         have HB0:=Ld hB.out
         clear ha HN hk hB
         have HNF:=Ld (show 2 ≤ qf → 0 ≤ findC ⟨tn,cols,keys⟩ qo from named_over HND.out)
         by_cases hfd : foldsB ⟨tn,cols,keys⟩ ⟨qt,fr,tt,wh,qc,qd,ql,qf,qo,AF,cF,AT,cT,AW,cW,AC,cC⟩ = true
         ·rw [if_neg (by rw [hfd];decide)] at HCQ
          have HFD:=Ld hfd
          clear hfd
          by_cases hl0 : ql < 0
          ·rw [if_pos hl0] at HCQ
           go_wp2_with (go_at_call 30;go_must (refine (folds_c A c ⟨tn,cols,keys⟩ ⟨qt,fr,tt,wh,qc,qd,ql,qf,qo,AF,cF,AT,cT,AW,cW,AC,cC⟩ _ (HR.out.below HW.out) (HQ.out.below HW.out) HNF.out).mono ?_;rintro e w3 ⟨rfl,hb⟩;rw [HFD.out];have HB3:=Ld (HB0.out.trans (hb.mono (show w.heap.size + 3 ≤ wr.heap.size by omega)));clear f0 f1 q0 q1 q2 a0 a1 a2 a3 a4 a5 a6 a7 a8 q3 q5 q6;obtain ⟨⟨f0,f1⟩,⟨q0,q1,q2⟩,⟨a0,a1,a2,a3,a4,a5,a6,a7,a8⟩,q3,q4⟩:=HBX.out _ HB3.out;have q5 : w.heap.size < w3.heap.size:=(by omega);have HW3:=Ld q4;clear hb q4))
           go_ret
           exact ⟨ret_eq (by rw [HCQ.out];rfl),HW3.out⟩
          ·rw [if_neg hl0] at HCQ
           go_wp2_with (go_at_call 30;go_must (refine (folds_c A c ⟨tn,cols,keys⟩ ⟨qt,fr,tt,wh,qc,qd,ql,qf,qo,AF,cF,AT,cT,AW,cW,AC,cC⟩ _ (HR.out.below HW.out) (HQ.out.below HW.out) HNF.out).mono ?_;rintro e w3 ⟨rfl,hb⟩;rw [HFD.out];have HB3:=Ld (HB0.out.trans (hb.mono (show w.heap.size + 3 ≤ wr.heap.size by omega)));clear f0 f1 q0 q1 q2 a0 a1 a2 a3 a4 a5 a6 a7 a8 q3 q5 q6;obtain ⟨⟨f0,f1⟩,⟨q0,q1,q2⟩,⟨a0,a1,a2,a3,a4,a5,a6,a7,a8⟩,q3,q4⟩:=HBX.out _ HB3.out;have q5 : w.heap.size < w3.heap.size:=(by omega);have HW3:=Ld q4;clear hb q4))
           go_ret
           exact ⟨ret_eq (by rw [HCQ.out];rfl),HW3.out⟩
         ·rw [if_pos (by simpa using hfd)] at HCQ
          have HFD:=Ld (Bool.eq_false_iff.2 hfd)
          clear hfd
          go_wp2_with (go_at_call 30;go_must (refine (folds_c A c ⟨tn,cols,keys⟩ ⟨qt,fr,tt,wh,qc,qd,ql,qf,qo,AF,cF,AT,cT,AW,cW,AC,cC⟩ _ (HR.out.below HW.out) (HQ.out.below HW.out) HNF.out).mono ?_;rintro e w3 ⟨rfl,hb⟩;rw [HFD.out];have HB3:=Ld (HB0.out.trans (hb.mono (show w.heap.size + 3 ≤ wr.heap.size by omega)));clear f0 f1 q0 q1 q2 a0 a1 a2 a3 a4 a5 a6 a7 a8 q3 q5 q6;obtain ⟨⟨f0,f1⟩,⟨q0,q1,q2⟩,⟨a0,a1,a2,a3,a4,a5,a6,a7,a8⟩,q3,q4⟩:=HBX.out _ HB3.out;have q5 : w.heap.size < w3.heap.size:=(by omega);have HW3:=Ld q4;clear hb q4))
          go_ret
          exact ⟨ret_eq (by rw [HCQ.out];rfl),HW3.out⟩
      ·rw [if_pos (by simpa using hnd)] at HCQ
       have HND:=Ld (Bool.eq_false_iff.2 hnd)
       clear hnd
       go_wp2_with (go_at_call 28;go_must (refine (named_c A c ⟨tn,cols,keys⟩ ⟨qt,fr,tt,wh,qc,qd,ql,qf,qo,AF,cF,AT,cT,AW,cW,AC,cC⟩ _ (HR.out.below HW.out) (HQ.out.below HW.out)).mono ?_;rintro e w2 ⟨rfl,hb⟩;rw [HND.out];have HB2:=Ld (hB.out.trans (hb.mono (show w.heap.size + 3 ≤ wr.heap.size by omega)));clear hb f0 f1 q0 q1 q2 a0 a1 a2 a3 a4 a5 a6 a7 a8 q3 q5 q6;obtain ⟨⟨f0,f1⟩,⟨q0,q1,q2⟩,⟨a0,a1,a2,a3,a4,a5,a6,a7,a8⟩,q3,q4⟩:=HBX.out _ HB2.out;have q5 : w.heap.size < w2.heap.size:=(by omega);have q6 : w.heap.size + 1 < w2.heap.size:=(by omega);have HW2:=Ld q4;clear q4))
       go_ret
       exact ⟨ret_eq (by rw [HCQ.out];rfl),HW2.out⟩
  ·rw [if_pos hnm] at HCQ
   have hnb : (qt.toList == tn.toList) = false:=by rw [eqB];exact decide_eq_false hnm
   clear hnm
   go_enter Tryz.func12,Tryz.ntmps12
   go_wp2_with (go_at_call 27;go_must (refine (Check_rows_c pg wd A c ⟨tn,cols,keys⟩ _ (HR.out.below HW0.out) (cell_keep HC.out (Nat.le_refl _) HW0.out)).mono ?_;rintro e w1 ⟨rfl,hb1⟩;have HB1:=Ld (hb1.mono (show w.heap.size + 3 ≤ _ by simp));obtain ⟨⟨f0,f1⟩,⟨q0,q1,q2⟩,⟨a0,a1,a2,a3,a4,a5,a6,a7,a8⟩,q3,q4⟩:=HBX.out _ HB1.out;have HW1:=Ld q4;clear hb1 q4))
   go_ret
   exact ⟨ret_eq (by rw [HCQ.out];rfl),HW1.out⟩
 ·rw [if_pos h0] at HCQ
  have hz0:=nz h0
  clear h0
  go_enter Tryz.func12,Tryz.ntmps12
  go_wp2_with (go_at_call 27;go_must (refine (Check_rows_c pg wd A c ⟨tn,cols,keys⟩ _ (HR.out.below HW0.out) (cell_keep HC.out (Nat.le_refl _) HW0.out)).mono ?_;rintro e w1 ⟨rfl,hb1⟩;have HB1:=Ld (hb1.mono (show w.heap.size + 3 ≤ _ by simp));obtain ⟨⟨f0,f1⟩,⟨q0,q1,q2⟩,⟨a0,a1,a2,a3,a4,a5,a6,a7,a8⟩,q3,q4⟩:=HBX.out _ HB1.out;have HW1:=Ld q4;clear hb1 q4))
  go_ret
  exact ⟨ret_eq (by rw [HCQ.out];rfl),HW1.out⟩
end
section
open Go.RowKit
set_option maxHeartbeats 1000000
set_option maxRecDepth 100000
theorem RdI.nil [Inhabited Thr] (w : World) (c : Nat) : RdI w none c []:=⟨.none_,Nat.zero_le _,by simp,by simp⟩
def spanR (pg wd : Int) (t : TabD) (q : QryV) : List UInt8 × List UInt8 × Nat :=
 if chkQ pg wd t q ≠ 0 then ([],[],chkQ pg wd t q) else ((bndR pg wd t (VI.dataL q.fr)).1,if 0 < q.tt.length then (bndR pg wd t (VI.dataL q.tt)).1 else (bndR pg wd t []).2.1,0)
theorem Span_query_c [Inhabited Thr] (pg wd : Int) (A : Option Addr) (c : Nat) (t : TabD) (q : QryV) (w : World) (hR : RdT w A c t) (hQ : RdQ w q) (hcell : ∃ m,w.cell? ⟨1,0,none⟩ = some (.int .i64 m)) :
 Calls Tryz.prog 10 #[vF pg wd,vT t A c,q.val] w fun e w' => e = .returned (.tuple #[.string ⟨(spanR pg wd t q).1.toArray⟩,.string ⟨(spanR pg wd t q).2.1.toArray⟩,.int .i64 (spanR pg wd t q).2.2]) ∧ Below w.heap.size w w':=by
 have HR:=Ld hR
 have HQ:=Ld hQ
 have HC:=Ld hcell
 rcases t with ⟨tn,cols,keys⟩
 rcases q with ⟨qt,fr,tt,wh,qc,qd,ql,qf,qo,AF,cF,AT,cT,AW,cW,AC,cC⟩
 have htb:=hQ.tt.hb
 simp only [QryV.val,QryV.cells] at htb ⊢
 have HBX:=Ld (fun W (h : Below (w.heap.size + 3) (((w.alloc (.cells #[.int .i64 pg,.int .i64 wd] 24)).alloc (.cells #[.string tn,.slice A cols.length c,.int .i64 keys] 27)).alloc (.cells #[.string qt,.slice AF fr.length cF,.slice AT tt.length cT,.slice AW wh.length cW,.slice AC qc.length cC,.bool qd,.int .i64 ql,.int .u8 qf,.string qo] 33)) W) => boxes_fq h)
 have HW0:=Ld (show Below w.heap.size w (((w.alloc (.cells #[.int .i64 pg,.int .i64 wd] 24)).alloc (.cells #[.string tn,.slice A cols.length c,.int .i64 keys] 27)).alloc (.cells #[.string qt,.slice AF fr.length cF,.slice AT tt.length cT,.slice AW wh.length cW,.slice AC qc.length cC,.bool qd,.int .i64 ql,.int .u8 qf,.string qo] 33)) from (two_below w _ _).alloc (by simp;omega) _)
 obtain ⟨bf,hbf⟩ : ∃ b,bndR pg wd ⟨tn,cols,keys⟩ (VI.dataL fr) = b:=⟨_,rfl⟩
 obtain ⟨bt,hbt⟩ : ∃ b,bndR pg wd ⟨tn,cols,keys⟩ (VI.dataL tt) = b:=⟨_,rfl⟩
 obtain ⟨cq,hcq⟩ : ∃ b,chkQ pg wd ⟨tn,cols,keys⟩ ⟨qt,fr,tt,wh,qc,qd,ql,qf,qo,AF,cF,AT,cT,AW,cW,AC,cC⟩ = b:=⟨_,rfl⟩
 have HBF:=Ld hbf
 have HBT:=Ld hbt
 have HCQ:=Ld hcq
 have HSP:=Ld (show spanR pg wd ⟨tn,cols,keys⟩ ⟨qt,fr,tt,wh,qc,qd,ql,qf,qo,AF,cF,AT,cT,AW,cW,AC,cC⟩ = if chkQ pg wd ⟨tn,cols,keys⟩ ⟨qt,fr,tt,wh,qc,qd,ql,qf,qo,AF,cF,AT,cT,AW,cW,AC,cC⟩ ≠ 0 then ([],[],chkQ pg wd ⟨tn,cols,keys⟩ ⟨qt,fr,tt,wh,qc,qd,ql,qf,qo,AF,cF,AT,cT,AW,cW,AC,cC⟩) else ((bndR pg wd ⟨tn,cols,keys⟩ (VI.dataL fr)).1,if 0 < tt.length then (bndR pg wd ⟨tn,cols,keys⟩ (VI.dataL tt)).1 else (bndR pg wd ⟨tn,cols,keys⟩ []).2.1,0) from rfl)
 rw [HBF.out,HBT.out,HCQ.out] at HSP
 clear hR hQ hcell hbf hbt hcq
 by_cases h0 : cq = 0
 ·rw [if_neg (by rw [h0];decide)] at HSP
  have z0:=zz h0
  clear h0
  by_cases hlt : 0 < tt.length
  ·rw [if_pos hlt] at HSP
   go_enter Tryz.func10,Tryz.ntmps10
   go_wp2_with (first | (go_at_call 12;go_must (refine (Check_query_c pg wd A c ⟨tn,cols,keys⟩ ⟨qt,fr,tt,wh,qc,qd,ql,qf,qo,AF,cF,AT,cT,AW,cW,AC,cC⟩ _ (HR.out.below HW0.out) (HQ.out.below HW0.out) (cell_keep HC.out (Nat.le_refl _) HW0.out)).mono ?_;rintro e w1 ⟨rfl,hb⟩;rw [HCQ.out];have HB1:=Ld (hb.mono (show w.heap.size + 3 ≤ _ by simp));obtain ⟨⟨f0,f1⟩,⟨q0,q1,q2⟩,⟨a0,a1,a2,a3,a4,a5,a6,a7,a8⟩,q3,q4⟩:=HBX.out _ HB1.out;have q5 : w.heap.size < w1.heap.size:=(by omega);have q6 : w.heap.size + 1 < w1.heap.size:=(by omega);have HW1:=Ld q4;clear q4 hb)) | (have h2x:=HB2.out;clear h2x;go_at_call 25;go_must (refine (Bounds_c pg wd A c ⟨tn,cols,keys⟩ AT cT tt _ (HR.out.below HW2.out) (HQ.out.below HW2.out).tt (cell_keep HC.out (Nat.le_refl _) HW2.out)).mono ?_;rintro e w3 ⟨rfl,hb⟩;rw [HBT.out];have HB3:=Ld (HB2.out.trans (hb.mono (show w.heap.size + 3 ≤ _ by omega)));clear hb f0 f1 q0 q1 q2 a0 a1 a2 a3 a4 a5 a6 a7 a8 q3 q5 q6;obtain ⟨⟨f0,f1⟩,⟨q0,q1,q2⟩,⟨a0,a1,a2,a3,a4,a5,a6,a7,a8⟩,q3,q4⟩:=HBX.out _ HB3.out;have q5 : w.heap.size < w3.heap.size:=(by omega);have q6 : w.heap.size + 1 < w3.heap.size:=(by omega);have HW3:=Ld q4;clear q4)) | (go_at_call 25;go_must (refine (Bounds_c pg wd A c ⟨tn,cols,keys⟩ AF cF fr _ (HR.out.below HW1.out) (HQ.out.below HW1.out).fr (cell_keep HC.out (Nat.le_refl _) HW1.out)).mono ?_;rintro e w2 ⟨rfl,hb⟩;rw [HBF.out];have HB2:=Ld (HB1.out.trans (hb.mono (show w.heap.size + 3 ≤ _ by omega)));clear hb f0 f1 q0 q1 q2 a0 a1 a2 a3 a4 a5 a6 a7 a8 q3 q5 q6;obtain ⟨⟨f0,f1⟩,⟨q0,q1,q2⟩,⟨a0,a1,a2,a3,a4,a5,a6,a7,a8⟩,q3,q4⟩:=HBX.out _ HB2.out;have q5 : w.heap.size < w2.heap.size:=(by omega);have q6 : w.heap.size + 1 < w2.heap.size:=(by omega);have HW2:=Ld q4;clear q4)))
   go_ret3
   exact ⟨ret_eq (by rw [HSP.out];rfl),HW3.out⟩
  ·have HNL:=Ld (show tt = [] from List.eq_nil_of_length_eq_zero (by omega))
   rw [if_neg hlt] at HSP
   obtain ⟨bn,hbn⟩ : ∃ b,bndR pg wd ⟨tn,cols,keys⟩ [] = b:=⟨_,rfl⟩
   have HBN:=Ld (show bndR pg wd ⟨tn,cols,keys⟩ (VI.dataL []) = bn by rw [← hbn];simp [VI.dataL])
   rw [hbn] at HSP
   clear hbn
   go_enter Tryz.func10,Tryz.ntmps10
   go_wp2_with (first | (go_at_call 12;go_must (refine (Check_query_c pg wd A c ⟨tn,cols,keys⟩ ⟨qt,fr,tt,wh,qc,qd,ql,qf,qo,AF,cF,AT,cT,AW,cW,AC,cC⟩ _ (HR.out.below HW0.out) (HQ.out.below HW0.out) (cell_keep HC.out (Nat.le_refl _) HW0.out)).mono ?_;rintro e w1 ⟨rfl,hb⟩;rw [HCQ.out];have HB1:=Ld (hb.mono (show w.heap.size + 3 ≤ _ by simp));obtain ⟨⟨f0,f1⟩,⟨q0,q1,q2⟩,⟨a0,a1,a2,a3,a4,a5,a6,a7,a8⟩,q3,q4⟩:=HBX.out _ HB1.out;have q5 : w.heap.size < w1.heap.size:=(by omega);have q6 : w.heap.size + 1 < w1.heap.size:=(by omega);have HW1:=Ld q4;clear q4 hb)) | (have h2x:=HB2.out;clear h2x;go_at_call 25;go_must (refine (Bounds_c pg wd A c ⟨tn,cols,keys⟩ none 0 [] _ (HR.out.below HW2.out) (RdI.nil _ _) (cell_keep HC.out (Nat.le_refl _) HW2.out)).mono ?_;rintro e w3 ⟨rfl,hb⟩;rw [HBN.out];have HB3:=Ld (HB2.out.trans (hb.mono (show w.heap.size + 3 ≤ _ by omega)));clear hb f0 f1 q0 q1 q2 a0 a1 a2 a3 a4 a5 a6 a7 a8 q3 q5 q6;obtain ⟨⟨f0,f1⟩,⟨q0,q1,q2⟩,⟨a0,a1,a2,a3,a4,a5,a6,a7,a8⟩,q3,q4⟩:=HBX.out _ HB3.out;have q5 : w.heap.size < w3.heap.size:=(by omega);have q6 : w.heap.size + 1 < w3.heap.size:=(by omega);have HW3:=Ld q4;clear q4)) | (go_at_call 25;go_must (refine (Bounds_c pg wd A c ⟨tn,cols,keys⟩ AF cF fr _ (HR.out.below HW1.out) (HQ.out.below HW1.out).fr (cell_keep HC.out (Nat.le_refl _) HW1.out)).mono ?_;rintro e w2 ⟨rfl,hb⟩;rw [HBF.out];have HB2:=Ld (HB1.out.trans (hb.mono (show w.heap.size + 3 ≤ _ by omega)));clear hb f0 f1 q0 q1 q2 a0 a1 a2 a3 a4 a5 a6 a7 a8 q3 q5 q6;obtain ⟨⟨f0,f1⟩,⟨q0,q1,q2⟩,⟨a0,a1,a2,a3,a4,a5,a6,a7,a8⟩,q3,q4⟩:=HBX.out _ HB2.out;have q5 : w.heap.size < w2.heap.size:=(by omega);have q6 : w.heap.size + 1 < w2.heap.size:=(by omega);have HW2:=Ld q4;clear q4)))
   go_ret3
   exact ⟨ret_eq (by rw [HSP.out];rfl),HW3.out⟩
 ·rw [if_pos h0] at HSP
  have z0:=nz h0
  clear h0
  go_enter Tryz.func10,Tryz.ntmps10
  go_wp2_with (go_at_call 12;go_must (refine (Check_query_c pg wd A c ⟨tn,cols,keys⟩ ⟨qt,fr,tt,wh,qc,qd,ql,qf,qo,AF,cF,AT,cT,AW,cW,AC,cC⟩ _ (HR.out.below HW0.out) (HQ.out.below HW0.out) (cell_keep HC.out (Nat.le_refl _) HW0.out)).mono ?_;rintro e w1 ⟨rfl,hb⟩;rw [HCQ.out];have HB1:=Ld (hb.mono (show w.heap.size + 3 ≤ _ by simp));obtain ⟨⟨f0,f1⟩,⟨q0,q1,q2⟩,⟨a0,a1,a2,a3,a4,a5,a6,a7,a8⟩,q3,q4⟩:=HBX.out _ HB1.out;have q5 : w.heap.size < w1.heap.size:=(by omega);have q6 : w.heap.size + 1 < w1.heap.size:=(by omega);have HW1:=Ld q4;clear q4 hb))
  go_ret3
  exact ⟨ret_eq (by rw [HSP.out];rfl),HW1.out⟩
end
section
open Go.RowKit
set_option maxHeartbeats 1000000
set_option maxRecDepth 100000
abbrev c6 (k : Int) (b : Bool) (n : Int) (f : Nat) (t : ByteArray) (A : Option Addr) (l c : Nat) : Array Value:=#[.int .u8 k,.bool b,.int .i64 n,.float .f64 f,.string t,.slice A l c]
def TwinEnd [Inhabited Thr] (w : World) (x : VI) (e : Ending) (w' : World) : Prop :=
 ∃ y : VI,e = .returned y.val ∧ y.data = x.data ∧ RdV w' y ∧ BlkV (fun k => w.heap.size ≤ k) y ∧ Below w.heap.size w w'
def twBox (w : World) (x : VI) : World:=(w.alloc (.cells (c6 x.k x.b x.n x.f x.t x.A x.l.length x.c) 54)).alloc (.cells (c6 0 false 0 0 ⟨#[]⟩ none 0 0) 54)
structure TwAt [Inhabited Thr] (w : World) (x : VI) (v : Value) (k : Nat) (ys : List VI) (W : World) : Prop where
 own : OwnI W (w.heap.size + 2) v ys
 blk : ∀ y ∈ ys,BlkV (fun j => w.heap.size + 2 ≤ j) y
 dat : VI.dataL ys = (VI.dataL x.l).take k
 len : ys.length = k
 bel : Below (w.heap.size + 2) (twBox w x) W
section
variable {w W W' hW : World} {x Y : VI} {v v' : Value} {k : Nat} {ys : List VI}
theorem twBox_below (w : World) (x : VI) : Below w.heap.size w (twBox w x):=two_below w _ _
theorem twBox_size (w : World) (x : VI) : (twBox w x).heap.size = w.heap.size + 2:=by simp [twBox]
theorem TwAt.below [Inhabited Thr] (h : TwAt w x v k ys W) : Below w.heap.size w W:=(twBox_below w x).trans (h.bel.mono (by omega))
theorem TwAt.size [Inhabited Thr] (h : TwAt w x v k ys W) : w.heap.size + 2 ≤ W.heap.size:=by have:=h.bel.size;rw [twBox_size] at this;exact this
theorem TwAt.box [Inhabited Thr] (h : TwAt w x v k ys W) : W.heap[w.heap.size]? = some (.cells (c6 x.k x.b x.n x.f x.t x.A x.l.length x.c) 54 (0,0)) :=
 (h.bel.block _ (by omega)).trans ((((Below.refl (w.heap.size + 1) (w.alloc (.cells (c6 x.k x.b x.n x.f x.t x.A x.l.length x.c) 54))).alloc (by simp) _).block _ (by omega)).trans (heap_alloc_new w _))
theorem TwAt.out [Inhabited Thr] (h : TwAt w x v k ys W) : W.heap[w.heap.size + 1]? = some (.cells (c6 0 false 0 0 ⟨#[]⟩ none 0 0) 54 (0,0)) :=
 (h.bel.block _ (by omega)).trans (by have:=heap_alloc_new (w.alloc (.cells (c6 x.k x.b x.n x.f x.t x.A x.l.length x.c) 54)) (.cells (c6 0 false 0 0 ⟨#[]⟩ none 0 0) 54);simpa [twBox] using this)
theorem TwAt.start [Inhabited Thr] (w : World) (x : VI) : TwAt w x (.slice none 0 0) 0 [] (twBox w x):=⟨.nil _ _,by simp,by simp [VI.dataL],rfl,Below.refl _ _⟩
theorem TwAt.put [Inhabited Thr] (h : TwAt w x v k ys W) (hk : k < x.l.length) (hb : Below W.heap.size W hW) (hY : BlkV (fun j => W.heap.size ≤ j) Y) (hd : Y.data = x.l[k].data) (hw : OwnI W' (w.heap.size + 2) v' (ys ++ [Y]))
 (hK : Kept (fun j => v.ownBlock = some j) hW W') : TwAt w x v' (k + 1) (ys ++ [Y]) W':=by
 have h2:=h.size
 refine ⟨hw,?_,?_,by rw [List.length_append,h.len];rfl,h.bel.trans ((hb.mono h2).trans (hK.below (Nat.le_trans h2 hb.size) (fun j hj e => by have:=(h.own.own.lt j e).1;omega)))⟩
 ·intro y hy
  rcases List.mem_append.1 hy with hy | hy
  ·exact h.blk y hy
  ·obtain rfl : y = Y:=by simpa using hy
   exact hY.mono fun k hk => by omega
 ·have hkd : k < (VI.dataL x.l).length:=by rw [dataL_eq,List.length_map];exact hk
  rw [List.take_succ_eq_append_getElem hkd,data_at x.l k hk,← h.dat,dataL_eq,dataL_eq,List.map_append,← hd]
  rfl
end
theorem twin_done [Inhabited Thr] {w W W2 : World} {xk xn : Int} {xb : Bool} {xf : Nat} {xt : ByteArray} {xA A : Option Addr} {xc c : Nat} {l ys : List VI} (hX : RdV w (.mk xk xb xn xf xt xA xc l)) (h : TwAt w (.mk xk xb xn xf xt xA xc l) (.slice A ys.length c) l.length ys W)
 (hk : Kept (fun j => j = w.heap.size ∨ j = w.heap.size + 1) W W2) {cs : Array Value} (hcs : cs = c6 xk xb xn xf xt A ys.length c) : TwinEnd w (.mk xk xb xn xf xt xA xc l) (.returned (.agg cs)) W2:=by
 subst hcs
 have hO:=h.own.kept hk (fun j e hj => by have:=(h.own.own.lt j e).1;omega) (fun y hy => (h.blk y hy).mono fun j hj e => by omega)
 have hlen : ys.length * 64 ≤ 140737488355328:=by have:=hX.list.hb;rw [h.len];exact this
 obtain ⟨A',c',e,hR⟩:=hO.rdi hlen
 cases e
 refine ⟨.mk xk xb xn xf xt A c ys,rfl,?_,?_,.mk _ (fun _ b o e => ?_) (fun y hy => (h.blk y hy).mono fun j hj => by omega),h.below.trans (hk.below (by have:=h.size;omega) (fun j hj e => by omega))⟩
 ·have hd:=h.dat
  simp only [VI.l] at hd
  rw [List.take_of_length_le (by rw [dataL_eq,List.length_map];exact Nat.le_refl _)] at hd
  simp only [VI.data,hd]
 ·cases hX with | mk _ _ _ _ ht hk hf hn _ _ => exact .mk _ hR.rd hR.hc hR.hb ht hk hf hn hR.hx (fun _ b o e _ => own_hw hO.own b o e)
 ·have:=own_block h.own.own b o e
  omega
theorem twin_c [Inhabited Thr] : ∀ (s : Nat) (x : VI) (w : World),SizeOf.sizeOf x ≤ s → RdV w x → Calls Tryz.prog 71 #[x.val] w (TwinEnd w x):=by
 intro s
 induction s with
 | zero => intro x w hs;exfalso;cases x;simp at hs
 | succ s ih =>
 intro x w hs hX
 have HIH:=Ld ih
 have HX:=Ld hX
 have hlen:=hX.list.hb
 rcases x with ⟨xk,xb,xn,xf,xt,xA,xc,l⟩
 have HS:=Ld hs
 simp only [VI.val,VI.k,VI.b,VI.n,VI.f,VI.t,VI.A,VI.c,VI.l] at hlen ⊢
 have HT0:=Ld (TwAt.start w (VI.mk xk xb xn xf xt xA xc l))
 have HLI:=Ld (show RdI w xA xc l from HX.out.list)
 clear ih hX hs
 go_enter Tryz.func71,Tryz.ntmps71
 go_wp2
 go_loopw [9,3] (fun i v wr => ∃ (k : Nat) (ys : List VI),k ≤ l.length ∧ i = .int .i64 k ∧ Hid (TwAt w (VI.mk xk xb xn xf xt xA xc l) v k ys wr)) (fun i _ _ => l.length - (intOf i).toNat)
 case atStart => exact ⟨0,[],Nat.zero_le _,rfl,HT0⟩
 case round =>
  obtain ⟨k,ys,hk,rfl,hT⟩:=hrel
  obtain ⟨A,cA,hv,hRI⟩:=hT.out.own.rdi (by rw [hT.out.len];omega)
  subst hv
  have hsz:=hT.out.size
  have HRL:=Ld (HLI.out.below hT.out.below)
  have hyl:=hT.out.len
  clear hRI
  by_cases hlt : k < l.length
  ·obtain ⟨ab,ao,rfl⟩ : ∃ ab ao,xA = some ⟨ab,ao,none⟩:=by obtain ⟨b,o,e,_⟩:=HRL.out.rd.2 (by omega);exact ⟨b,o,e⟩
   obtain ⟨p0,p1,p2,p3,p4,p5⟩:=item_at HRL.out.rd hlt
   have HZ:=Ld (HRL.out.hx _ (List.getElem_mem hlt))
   have HSZ:=Ld (show SizeOf.sizeOf l[k] ≤ s by have h1:=sz_lt (List.getElem_mem hlt);have h2:=HS.out;simp at h2;omega)
   have HPT:=Ld (fun (Y : VI) (hW W' : World) (v' : Value) => TwAt.put (Y:=Y) (hW:=hW) (W':=W') (v':=v') hT.out hlt)
   simp only [VI.l] at HPT
   obtain ⟨z,hz⟩ : ∃ z,l[k] = z:=⟨_,rfl⟩
   rw [hz] at p0 p1 p2 p3 p4 p5 HZ HSZ
   simp only [hz] at HPT
   clear hz
   rcases z with ⟨zk,zb,zn,zf,zt,zA,zc,zl⟩
   simp only [VI.k,VI.b,VI.n,VI.f,VI.t,VI.A,VI.c,VI.l] at p0 p1 p2 p3 p4 p5
   have HYL:=Ld hyl
   clear hyl
   go_wp2_with (first
    | (go_at_call 71;go_must (refine (HIH.out (VI.mk zk zb zn zf zt zA zc zl) _ HSZ.out (HZ.out.grow ((Below.refl _ _).alloc (Nat.le_refl _) _))).mono ?_;rintro e w2 ⟨Y,rfl,hd,hr,hb,hB⟩;have HB2:=Ld (((Below.refl wr.heap.size wr).alloc (Nat.le_refl _) _).trans (hB.mono (by simp)));have HD:=Ld hd;have HR2:=Ld hr;have HBK:=Ld (hb.mono (Q:=fun j => wr.heap.size ≤ j) (fun j hj => by simp at hj;omega));rcases Y with ⟨yk,yb,yn,yf,yt,yA,yc,yl⟩;simp only [VI.val,VI.k,VI.b,VI.n,VI.f,VI.t,VI.A,VI.c,VI.l];clear hd hr hb hB p0 p1 p2 p3 p4 p5))
    | (at_builtin;go_must (have HO5:=Ld ((hT.out.own.below HB2.out).below ((Below.refl _ _).alloc (Nat.le_refl _) (.cells (c6 yk yb yn yf yt yA yl.length yc) 54)));refine wpList_items (B:=w.heap.size + 2) (l:=ys) (ys:=[VI.mk yk yb yn yf yt yA yc yl]) rfl (.tmp 13) (.tmp 16) rfl HO5.out rfl rfl (rd_items w2 (c6 yk yb yn yf yt yA yl.length yc) [VI.mk yk yb yn yf yt yA yc yl] rfl (g:=w2.heap.size) rfl rfl) rfl (by intro y hy;obtain rfl : y = (VI.mk yk yb yn yf yt yA yc yl):=(by simpa using hy);exact HR2.out.grow ((Below.refl _ _).alloc (Nat.le_refl _) _)) (by intro y hy;obtain rfl : y = (VI.mk yk yb yn yf yt yA yc yl):=(by simpa using hy);exact HBK.out.mono fun j hj e => by have:=(hT.out.own.own.lt j e).2;omega) (by have:=HYL.out;omega) (Nat.le_trans hsz (Nat.le_trans HB2.out.size (by simp))) ?_;intro v2 w3 hO2 hK2 _;have HO2:=Ld hO2;have HK2:=Ld hK2;clear hO2 hK2)))
   exact ⟨⟨k + 1,_,by omega,by go_num,Ld (HPT.out _ _ _ _ (HB2.out.alloc HB2.out.size _) HBK.out HD.out HO2.out HK2.out)⟩,by simp [intOf];omega⟩
  ·have HKL:=Ld (show k = l.length by omega)
   have HBX:=Ld hT.out.box
   have HBO:=Ld hT.out.out
   have HYL:=Ld hyl
   simp only [VI.k,VI.b,VI.n,VI.f,VI.t,VI.A,VI.c,VI.l] at HBX
   have p5 : wr.cell? ⟨w.heap.size,5,none⟩ = some (.slice xA l.length xc):=cell_of_row _ _ 5 _ _ _ HBX.out
   have p6:=frozen_of_row wr w.heap.size 5 _ _ HBX.out
   clear hyl
   go_wp2_with (first
    | (refine wpList_load_row rfl 54 (.tmp 1) rfl w.heap.size rfl 54 (c6 xk xb xn xf xt A ys.length cA) (0,0) _ (heap_setCell_same _ _ _ _ _ _ HBX.out) Tryz.underlying54 rfl (by kernel_rfl) ?_)
    | (refine wpList_store_row rfl 54 (.tmp 2) (.tmp 21) rfl (w.heap.size + 1) (c6 xk xb xn xf xt A ys.length cA) rfl rfl 54 _ ((heap_setCell_other _ _ _ _ (by simp)).trans HBO.out) (by kernel_rfl) rfl (one6 _ _ _ _ _ _ _ _) ?_))
   have HKK:=HKL.out
   subst HKK
   have HSO:=(heap_setCell_other wr ⟨w.heap.size,5,none⟩ (w.heap.size + 1) (.slice A ys.length cA) (by simp)).trans HBO.out
   refine bodyPost_ret (results_c1 rfl _ _ (w.heap.size + 1) 54 _ (0,0) _ rfl (setRow_block _ _ _ _ _ _ HSO) Tryz.underlying54 rfl (by kernel_rfl)) rfl
    (twin_done HX.out hT.out (((Kept.refl _ _).setCell _ (.inl (.inl rfl))).trans ((setRow_kept _ _ _).mono (fun j e => .inr e))) rfl)
end
end Go.Proofs.YtonjgedhmmnolaaGreatDoor
