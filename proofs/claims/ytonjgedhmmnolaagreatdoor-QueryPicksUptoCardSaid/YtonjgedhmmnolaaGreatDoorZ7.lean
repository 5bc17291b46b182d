import Derived.Test.YtonjgedhmmnolaaGreatDoorZ6
namespace Go.Proofs.YtonjgedhmmnolaaGreatDoor
section
open Go.RowKit
set_option maxHeartbeats 1000000
set_option maxRecDepth 100000
theorem lawS : Maps.Keyed Tryz.prog 9:=Maps.string_keyed Tryz.underlying9
theorem zeroI (w : World) : (zeroValue 3).run Tryz.prog w = .ok (.int .i64 0) w:=by kernel_rfl
theorem Seen.made (w : World) : Seen (w.alloc (.map #[] 0)) w.heap.size 0 []:=⟨.map [],World.ownsMap_made _ _ _ _,Maps.isMap_empty,fun _ => rfl⟩
theorem Seen.kept {w w' : World} {B n : Nat} {l : List ColD} (h : Seen w B n l) (hb : Below w.heap.size w w') : Seen w' B n l:=by
 obtain ⟨D,h1,h2,h3⟩:=h
 exact ⟨D,h1.kept (row:=none) ⟨hb.os,hb.tape,hb.output,hb.size,fun k hk _ => hb.block k hk⟩ (by simp),h2,h3⟩
theorem Seen.look {w : World} {B n : Nat} {l : List ColD} (h : Seen w B n l) (nm : ByteArray) (hs : nm.size ≤ 140737488355328) : (Instr.lookup 129 (.map (some B)) (.string nm) false).run Tryz.prog w = .ok (.int .i64 (cntN l nm.data.toList)) w:=by
 obtain ⟨D,h1,h2,h3⟩:=h
 obtain ⟨c,hrun,hat,_⟩:=h1.lookup_int lawS Tryz.underlying129 Tryz.underlying3 (zeroI _) (WideMaps.keyOf_string_mk Tryz.underlying9 (s:=nm) (by unfold maxLen;omega))
 rw [h3] at hat
 cases hat
 exact hrun
theorem isKeyS (l : List UInt8) : WideAt.IsKeyLit (.string l):=by simp [WideAt.IsKeyLit]
theorem Seen.put {w1 : World} {B n : Nat} {l : List ColD} {c : ColD} {D : DataW Unit} (h2 : Maps.IsMap D) (h3 : ∀ nm : List UInt8,D.atKey (.string nm) (.lit (.int .i64 0)) = .lit (.int .i64 (cntN l nm)))
 (h1 : w1.ownsMap Tryz.prog 9 (plainElem (H:=Unit) Tryz.prog 3) B (n + 1) (D.put (.string c.name.data.toList) (.lit (.int .i64 ((cntN l c.name.data.toList : Int) + 1))))) : Seen w1 B (n + 1) (l ++ [c]):=by
 refine ⟨_,h1,h2.put _ _,fun nm => ?_⟩
 rw [cntN_snoc]
 by_cases hn : nm = c.name.data.toList
 ·subst hn
  rw [Maps.atKey_put_same h2 (isKeyS _)]
  simp
 ·rw [Maps.atKey_put_other (by intro e;cases e;exact hn rfl),h3]
  have : (c.name.data.toList == nm) = false:=by rw [beq_eq_false_iff_ne];exact fun e => hn e.symm
  simp [this]
theorem box3 {w : World} {g : Nat} {a b c : Value} {t : TypeId} (hg : w.heap[g]? = some (.cells #[a,b,c] t (0,0))) :
 w.cell? ⟨g,0,none⟩ = some a ∧ w.cell? ⟨g,1,none⟩ = some b ∧ w.cell? ⟨g,2,none⟩ = some c:=⟨cell_of_row _ _ 0 _ _ _ hg,cell_of_row _ _ 1 _ _ _ hg,cell_of_row _ _ 2 _ _ _ hg⟩
theorem shapedAt_eq (t : TabD) (i : Nat) (h : i < t.cols.length) : shapedAt t i = (nameB t.cols[i].name.data.toList && !decide (0 < cntN (t.cols.take i) t.cols[i].name.data.toList) && decide (2 ≤ t.cols[i].kind) && decide (t.cols[i].kind ≤ 6) && !(decide ((i : Int) < t.keys) && t.cols[i].null)):=by
 unfold shapedAt
 rw [List.getElem?_eq_getElem h]
 simp only [cntN_any]
theorem seen_kept {a b : World} {B : Nat} (h : a.grownBy b (some B)) : Kept (fun j => j = B) a b:=(Kept.refl _ a).grown h (fun k hk _ => by cases hk;rfl)
theorem Seen.lt {w : World} {B n : Nat} {l : List ColD} (h : Seen w B n l) : B < w.heap.size:=by
 obtain ⟨D,h1,_⟩:=h
 exact h1.lt
theorem shapedB_no {tn : ByteArray} {cols : List ColD} {keys : Int} (h : ¬ (nameB tn.data.toList = true ∧ 1 ≤ cols.length ∧ cols.length ≤ 16 ∧ 1 ≤ keys ∧ keys ≤ cols.length)) : shapedB ⟨tn,cols,keys⟩ = false:=by
 rw [← Bool.not_eq_true]
 intro hs
 simp only [shapedB,Bool.and_eq_true,decide_eq_true_eq] at hs
 exact h ⟨hs.1.1.1.1.1,hs.1.1.1.1.2,hs.1.1.1.2,hs.1.1.2,hs.1.2⟩
theorem shaped_c (A : Option Addr) (c : Nat) (t : TabD) (w : World) (hR : RdT w A c t) : Calls Tryz.prog 57 #[vT t A c] w fun e w' => e = .returned (.bool (shapedB t)) ∧ Below w.heap.size w w':=by
 have HR:=Ld hR
 have hmm:=@run_makeMap Tryz.prog
 have hnn:=hR.hn
 have hkk:=hR.hk
 have hlen:=hR.hb
 rcases t with ⟨tn,cols,keys⟩
 simp only at hnn hkk hlen
 by_cases hbad : nameB tn.data.toList = true ∧ 1 ≤ cols.length ∧ cols.length ≤ 16 ∧ 1 ≤ keys ∧ keys ≤ cols.length
 ·obtain ⟨b1,b2,b3,b4,b5⟩:=hbad
  have HB1:=Ld b1
  clear hR b1
  go_enter Tryz.func57,Tryz.ntmps57
  go_wp2_with (go_at_call 90;go_must (refine (name_c tn _ hnn).mono ?_;rintro e w1 ⟨rfl,rfl⟩;rw [HB1.out]))
  go_loopw [39] (fun i wr => ∃ k : Nat,k ≤ cols.length ∧ i = .int .i64 k ∧ Hid (∀ i,i < k → shapedAt ⟨tn,cols,keys⟩ i = true) ∧ Hid (Below w.heap.size w wr) ∧ Hid (wr.heap[w.heap.size]? = some (.cells #[.string tn,.slice A cols.length c,.int .i64 keys] 27 (0,0))) ∧ Hid (Seen wr (w.heap.size + 1) k (cols.take k))) (fun i _ => cols.length - (intOf i).toNat)
  case atStart => exact ⟨0,Nat.zero_le _,rfl,Ld (fun i h => absurd h (by omega)),Ld (((Below.refl _ _).alloc (Nat.le_refl _) _).alloc (by simp) _),Ld ((((Below.refl _ _).alloc (Nat.le_refl _) _).block _ (by simp)).trans (heap_alloc_new w _)),Ld (by have:=Seen.made (w.alloc (.cells #[.string tn,.slice A cols.length c,.int .i64 keys] 27));simpa using this)⟩
  case round =>
   obtain ⟨k,hk,rfl,hgood,hB,hrow,hS⟩:=hrel
   have HRr:=Ld (HR.out.below hB.out)
   by_cases hlt : k < cols.length
   ·obtain ⟨ab,ao,rfl⟩ : ∃ ab ao,A = some ⟨ab,ao,none⟩:=by obtain ⟨b,o,e,_⟩:=HRr.out.rd.2 (show 0 < cols.length by omega);exact ⟨b,o,e⟩
    obtain ⟨p0,p1,p2⟩:=col_at HRr.out.rd hlt
    have hx:=HR.out.hx _ (List.getElem_mem hlt)
    have HSA:=Ld (shapedAt_eq ⟨tn,cols,keys⟩ k hlt)
    have HTK:=Ld (show cols.take (k + 1) = cols.take k ++ [cols[k]] from (List.take_append_getElem hlt).symm)
    simp only at p0 p1 p2 hx
    have HSA':=HSA.out
    simp only at HSA'
    have HSAH:=Ld HSA'
    clear HSA HSA'
    obtain ⟨⟨nm,kd,nl⟩,hcx⟩ : ∃ x,cols[k] = x:=⟨_,rfl⟩
    rw [hcx] at p0 p1 p2 hx HSAH HTK
    clear hcx
    obtain ⟨q,hq⟩ : ∃ q : Nat,cntN (cols.take k) nm.data.toList = q:=⟨_,rfl⟩
    have hq16 : q ≤ 16:=by have:=cntN_le (cols.take k) nm.data.toList;rw [List.length_take] at this;omega
    simp only at p0 p1 p2 hx HSAH
    obtain ⟨hx1,hx2,hx3⟩:=hx
    obtain ⟨t0,t1,t2⟩:=box3 hrow.out
    have hlook:=fun o => (hS.out.kept ((Below.refl _ _).alloc (Nat.le_refl _) o)).look nm hx1
    rw [hq] at hlook HSAH
    have HQ:=Ld hq
    clear hq
    go_wp2_with (first
     | (at_mapUpdate;go_must (obtain ⟨D,d1,d2,d3⟩:=hS.out.kept ((Below.refl _ _).alloc (Nat.le_refl _) (.cells #[.string nm,.int .u8 kd,.bool nl] 58));refine wpList_mapUpdate_own (H:=Unit) _ rfl (.tmp 44) (.tmp 46) (.tmp 48) 129 rfl 9 3 lawS Tryz.underlying129 _ (w.heap.size + 1) k D rfl d1 (by unfold maxLen;omega) (.string nm) (.int .i64 ((q : Int) + 1)) (.string nm.data.toList) rfl rfl (WideMaps.keyOf_string_mk Tryz.underlying9 (by unfold maxLen;omega)) (.lit (.int .i64 ((q : Int) + 1))) [] (plainElem_int Tryz.underlying3 (WalkArith.wf_i64 (by omega))) ?_;intro w1 hown1 hgrow1;have hk1:=seen_kept hgrow1;have HS2:=Ld (Seen.put (c:=⟨nm,kd,nl⟩) d2 d3 (by rw [HQ.out];exact hown1));have hlook2:=HS2.out.look nm hx1;rw [cntN_snoc,HQ.out,if_pos (beq_self_eq_true _)] at hlook2;have HC1:=Ld (hk1.block wr.heap.size (by simp) (by have:=hB.out.size;have:=hS.out.lt;omega));rw [heap_alloc_new wr _] at HC1;obtain ⟨c0,c1,c2⟩:=box3 HC1.out;have HT1:=Ld (((hk1.block w.heap.size (by have:=(Array.getElem?_eq_some_iff.1 hrow.out).1;(try simp) <;> omega) (by omega)).trans ((((Below.refl _ _).alloc (Nat.le_refl _) _).block _ (Array.getElem?_eq_some_iff.1 hrow.out).1))).trans hrow.out);have HB1':=Ld (hB.out.trans ((((Below.refl _ _).alloc (Nat.le_refl _) _).mono hB.out.size).trans (hk1.below (by have:=hB.out.size;(try simp) <;> omega) (fun j hj e => by omega))));obtain ⟨y0,y1,y2⟩:=box3 HT1.out;have hsz1 : wr.heap.size < w1.heap.size:=(by have:=hk1.size;(try simp at this) <;> omega);clear d1 d2 d3 hown1 hgrow1 hk1 hlook p0 p1 p2 t0 t1 t2))
     | (go_at_call 90;go_must (refine (name_c nm _ hx1).mono ?_;rintro e w2 ⟨rfl,rfl⟩)))
    all_goals (rename_i hlast;cases nl)
    all_goals first
     | (have hc : shapedAt ⟨tn,cols,keys⟩ k = true:=by
         rw [HSAH.out]
         have g1 : nameB nm.data.toList = true:=by assumption
         rw [g1,decide_eq_false (show ¬ 0 < q by omega),decide_eq_true (show 2 ≤ kd by omega),decide_eq_true (show kd ≤ 6 by omega)]
         first
          | (simp;done)
          | (rw [decide_eq_false (show ¬ (k : Int) < keys by omega)];rfl)
        refine ⟨⟨k + 1,by omega,by go_num,Ld (fun i hi => ?_),HB1',HT1,?_⟩,by simp [intOf];omega⟩
        ·rcases Nat.lt_or_ge i k with h | h
         ·exact hgood.out i h
         ·obtain rfl : i = k:=by omega
          exact hc
        ·rw [HTK.out];exact HS2)
     | (have hc : shapedAt ⟨tn,cols,keys⟩ k = false:=by
         rw [HSAH.out,← Bool.not_eq_true]
         simp only [Bool.and_eq_true,Bool.not_eq_true',Bool.and_eq_false_iff,decide_eq_true_eq,decide_eq_false_iff_not]
         rintro ⟨⟨⟨⟨g1,g2⟩,g3⟩,g4⟩,g5⟩
         first
          | omega
          | contradiction
          | (rcases g5 with g5 | g5
             ·omega
             ·cases g5)
          | (rcases hlast with ((h | h) | h) | h <;> first | omega | cases h)
        go_ret
        exact ⟨ret_eq (by rw [shapedB_not hlt hc];rfl),HB1'.out⟩)
     | (exfalso;rcases hlast with ⟨_,h⟩;cases h;done)
   ·go_wp2
    go_ret
    exact ⟨ret_eq (by rw [shapedB_of HB1.out b2 b3 b4 b5 (fun i hi => hgood.out i (Nat.lt_of_lt_of_le hi (by simp only;omega)))];rfl),hB.out⟩
 ·have HN:=Ld (shapedB_no hbad)
  by_cases c1 : nameB tn.data.toList = true
  ·have HB1:=Ld c1
   by_cases c2 : cols.length < 1
   ·clear c1 hR hbad hmm
    go_enter Tryz.func57,Tryz.ntmps57
    go_wp2_with (go_at_call 90;go_must (refine (name_c tn _ hnn).mono ?_;rintro e w1 ⟨rfl,rfl⟩;rw [HB1.out]))
    go_ret
    exact ⟨ret_eq (by rw [HN.out];rfl),(Below.refl _ _).alloc (Nat.le_refl _) _⟩
   ·by_cases c3 : 16 < cols.length
    ·clear c1 hR hbad hmm
     go_enter Tryz.func57,Tryz.ntmps57
     go_wp2_with (go_at_call 90;go_must (refine (name_c tn _ hnn).mono ?_;rintro e w1 ⟨rfl,rfl⟩;rw [HB1.out]))
     go_ret
     exact ⟨ret_eq (by rw [HN.out];rfl),(Below.refl _ _).alloc (Nat.le_refl _) _⟩
    ·by_cases c4 : keys < 1
     ·clear c1 hR hbad hmm
      go_enter Tryz.func57,Tryz.ntmps57
      go_wp2_with (go_at_call 90;go_must (refine (name_c tn _ hnn).mono ?_;rintro e w1 ⟨rfl,rfl⟩;rw [HB1.out]))
      go_ret
      exact ⟨ret_eq (by rw [HN.out];rfl),(Below.refl _ _).alloc (Nat.le_refl _) _⟩
     ·have c5 : (cols.length : Int) < keys:=by
        rcases Int.lt_or_le (cols.length : Int) keys with h | h
        ·exact h
        ·exact absurd ⟨c1,by omega,by omega,by omega,h⟩ hbad
      clear c1 hR hbad hmm
      go_enter Tryz.func57,Tryz.ntmps57
      go_wp2_with (go_at_call 90;go_must (refine (name_c tn _ hnn).mono ?_;rintro e w1 ⟨rfl,rfl⟩;rw [HB1.out]))
      go_ret
      exact ⟨ret_eq (by rw [HN.out];rfl),(Below.refl _ _).alloc (Nat.le_refl _) _⟩
  ·have c1' : nameB tn.data.toList = false:=by simpa using c1
   have HB1:=Ld c1'
   clear c1 c1' hR hbad hmm
   go_enter Tryz.func57,Tryz.ntmps57
   go_wp2_with (go_at_call 90;go_must (refine (name_c tn _ hnn).mono ?_;rintro e w1 ⟨rfl,rfl⟩;rw [HB1.out]))
   go_ret
   exact ⟨ret_eq (by rw [HN.out];rfl),(Below.refl _ _).alloc (Nat.le_refl _) _⟩
end
section
open Go.RowKit
set_option maxHeartbeats 1000000
set_option maxRecDepth 100000
abbrev vText (s : ByteArray) : VI:=.mk 5 false 0 0 s none 0 []
abbrev vInt (n : Int) : VI:=.mk 3 false n 0 ⟨#[]⟩ none 0 []
abbrev vBool (b : Bool) : VI:=.mk 2 b 0 0 ⟨#[]⟩ none 0 []
def colRow (c : ColD) : List VI:=[vText c.name,vInt c.kind,vBool c.null]
def tabRow (t : TabD) : List VI:=vInt t.keys :: t.cols.flatMap colRow
def textB (t : TabD) : List UInt8:=if chkL (VI.dataL (tabRow t)) = 0 then packL (VI.dataL (tabRow t)) else []
theorem OwnI.laid [Inhabited Thr] (w : World) (cs : Array Value) (ys : List VI) (hcs : cs = (icells ys).toArray) (h1 : ys.length ≤ 1000) {n : Nat} (hn : n = ys.length) {g : Nat} (hg : g = w.heap.size) {B : Nat} (hB : B ≤ w.heap.size) (hy : ∀ y ∈ ys,RdV w y) :
 OwnI (w.alloc (.cells cs 54)) B (.slice (some ⟨g,0,none⟩) n n) ys:=by
 subst hcs hn hg
 have hl:=icells_len ys
 refine ⟨⟨hl,.inr ⟨w.heap.size,ys.length,(icells ys).toArray,rfl,hB,heap_alloc_new w _,Nat.le_refl _,?_,by simp [hl],by simp [List.take_of_length_le (Nat.le_of_eq hl)]⟩⟩,fun y hy' => (hy y hy').grow ((Below.refl _ _).alloc (Nat.le_refl _) _),fun y hy' => ?_⟩
 ·unfold maxLen;omega
 ·refine (hy y hy').blk.mono fun k hk e => ?_
  simp only [Value.ownBlock,Option.some.injEq] at e
  omega
theorem colRow_len (l : List ColD) : (l.flatMap colRow).length = l.length * 3:=by
 induction l with
 | nil => rfl
 | cons c l ih => rw [List.flatMap_cons,List.length_append,ih,List.length_cons];simp [colRow];omega
theorem tabRow_take (t : TabD) (k : Nat) (h : k < t.cols.length) : vInt t.keys :: (t.cols.take (k + 1)).flatMap colRow = (vInt t.keys :: (t.cols.take k).flatMap colRow) ++ colRow t.cols[k]:=by
 rw [← List.take_append_getElem h,List.flatMap_append]
 simp
theorem colRow_rd [Inhabited Thr] (W : World) (c : ColD) (hx : c.name.size ≤ 140737488355328 ∧ 0 ≤ c.kind ∧ c.kind ≤ 255) : ∀ y ∈ colRow c,RdV W y:=by
 intro y hy
 simp only [colRow,List.mem_cons,List.not_mem_nil,or_false] at hy
 rcases hy with rfl | rfl | rfl
 ·exact RdV.plain _ _ _ _ _ _ hx.1 (by decide) (by decide) (by decide)
 ·exact RdV.plain _ _ _ _ _ _ (by decide) (by decide) (by decide) (by omega)
 ·exact RdV.plain _ _ _ _ _ _ (by decide) (by decide) (by decide) (by decide)
theorem colRow_blk (P : Nat → Prop) (c : ColD) : ∀ y ∈ colRow c,BlkV P y:=by
 intro y hy
 simp only [colRow,List.mem_cons,List.not_mem_nil,or_false] at hy
 rcases hy with rfl | rfl | rfl <;> exact BlkV.plain _ _ _ _ _ _
theorem text_row_c (A : Option Addr) (c : Nat) (t : TabD) (w : World) (hR : RdT w A c t) (hn : t.cols.length ≤ 16) (hcell : ∃ m,w.cell? ⟨1,0,none⟩ = some (.int .i64 m)) :
 Calls Tryz.prog 58 #[vT t A c] w fun e w' => e = .returned (.string ⟨(textB t).toArray⟩) ∧ Below w.heap.size w w':=by
 haveI : Inhabited Thr:=⟨⟨0⟩⟩
 have HR:=Ld hR
 have HC:=Ld hcell
 have hkk:=hR.hk
 have hlen:=hR.hb
 rcases t with ⟨tn,cols,keys⟩
 simp only at hkk hlen hn
 have hg1:=fun W : World => Nat.lt_succ_self W.heap.size
 clear hR hcell hg1
 go_enter Tryz.func58,Tryz.ntmps58
 go_wp2_with (go_at_call 91;go_must (refine (intItem_c keys _).mono ?_;rintro e w1 ⟨rfl,hb1⟩;simp only [VI.val,VI.k,VI.b,VI.n,VI.f,VI.t,VI.A,VI.c,VI.l,List.length_nil];have HB1:=Ld hb1;have HT1:=Ld ((hb1.block w.heap.size (by simp)).trans (heap_alloc_new w _));obtain ⟨y0,y1,y2⟩:=box3 HT1.out;have hlt1 : w.heap.size < w1.heap.size:=(Array.getElem?_eq_some_iff.1 HT1.out).1;clear hb1))
 go_loopw [15,3] (fun i v wr => ∃ k : Nat,k ≤ cols.length ∧ i = .int .i64 k ∧ Hid (Below w.heap.size w wr) ∧ Hid (OwnI wr (w.heap.size + 1) v (vInt keys :: (cols.take k).flatMap colRow))) (fun i _ _ => cols.length - (intOf i).toNat)
 case atStart =>
  have h1 : Below w.heap.size w w1:=below_a HB1.out
  exact ⟨0,Nat.zero_le _,rfl,Ld (h1.alloc h1.size _),Ld (OwnI.laid w1 _ [vInt keys] rfl (by simp) rfl rfl hlt1 (by intro y hy;obtain rfl : y = vInt keys:=(by simpa using hy);exact RdV.plain _ _ _ _ _ _ (by decide) (by decide) (by decide) hkk))⟩
 case round =>
  obtain ⟨k,hk,rfl,hB,hO⟩:=hrel
  have HRr:=Ld (HR.out.below hB.out)
  clear y0 y1 y2 hlt1
  by_cases hlt : k < cols.length
  ·obtain ⟨ab,ao,rfl⟩ : ∃ ab ao,A = some ⟨ab,ao,none⟩:=by obtain ⟨b,o,e,_⟩:=HRr.out.rd.2 (show 0 < cols.length by omega);exact ⟨b,o,e⟩
   obtain ⟨p0,p1,p2⟩:=col_at HRr.out.rd hlt
   have hx:=HR.out.hx _ (List.getElem_mem hlt)
   have HTK:=Ld (tabRow_take ⟨tn,cols,keys⟩ k hlt)
   have HLN:=Ld (show (vInt keys :: (cols.take k).flatMap colRow).length ≤ 49 by rw [List.length_cons,colRow_len,List.length_take];omega)
   simp only at p0 p1 p2 hx HTK
   obtain ⟨⟨nm,kd,nl⟩,hcx⟩ : ∃ x,cols[k] = x:=⟨_,rfl⟩
   rw [hcx] at p0 p1 p2 hx HTK
   clear hcx
   simp only at p0 p1 p2 hx
   have HX:=Ld hx
   obtain ⟨hx1,hx2,hx3⟩:=hx
   go_wp2
   have hc0 : (wr.alloc (.cells #[.string nm,.int .u8 kd,.bool nl] 58)).heap[wr.heap.size]? = some (.cells #[.string nm,.int .u8 kd,.bool nl] 58 (0,0)):=heap_alloc_new wr _
   refine wp_region_sched (S:=fun W => W.heap[wr.heap.size]? = some (.cells #[.string nm,.int .u8 kd,.bool nl] 58 (0,0)))
    [(0,true),(1,true),(2,true),(4,true),(5,true),(6,true),(8,true),(9,true),(10,true),(3,false),(7,false),(11,false),(12,false),(13,true)] (by kernel_rfl) (by kernel_rfl) (by kernel_rfl) (fun _ _ d _ _ h => by cases d <;> exact h) hc0 ?_
   clear p0 p1 p2
   repeat (apply sched_take;(exact rfl);rfl;(intro W hW;obtain ⟨q0,q1,q2⟩:=box3 (show W.heap[wr.heap.size]? = some (.cells #[.string nm,.int .u8 kd,.bool nl] 58 (0,0)) from hW);have q3 : wr.heap.size < W.heap.size:=(Array.getElem?_eq_some_iff.1 hW).1;go_simp;(try with_reducible rfl));simp only [Act.put,List.setIfInBounds_toArray,List.set_cons_zero,List.set_cons_succ])
   rw [IntWalk.i64_in kd (by omega)]
   have HO0:=Ld (hO.out.below ((Below.refl wr.heap.size wr).alloc (Nat.le_refl _) (.cells #[.string nm,.int .u8 kd,.bool nl] 58)).drew)
   have HB0:=Ld (hB.out.trans (((Below.refl wr.heap.size wr).alloc (Nat.le_refl _) (.cells #[.string nm,.int .u8 kd,.bool nl] 58)).drew.mono hB.out.size))
   have HC0:=Ld (show (wr.alloc (.cells #[.string nm,.int .u8 kd,.bool nl] 58)).drew.heap[wr.heap.size]? = some (.cells #[.string nm,.int .u8 kd,.bool nl] 58 (0,0)) from hc0)
   have hsz0:=hB.out.size
   clear hc0
   obtain ⟨W0,hW0⟩ : ∃ W0,(wr.alloc (.cells #[.string nm,.int .u8 kd,.bool nl] 58)).drew = W0:=⟨_,rfl⟩
   rw [hW0] at HO0 HB0 HC0 ⊢
   clear hW0
   have hs0:=(Array.getElem?_eq_some_iff.1 HC0.out).1
   apply sched_run;(exact rfl);rfl;intro K hK;go_simp
   refine (textItem_c nm _).mono ?_
   rintro e w3 ⟨rfl,hb3⟩
   have HC3:=Ld ((hb3.block _ hs0).trans HC0.out)
   have HB3:=Ld (HB0.out.trans (hb3.mono (by omega)))
   have HO3:=Ld (HO0.out.below hb3)
   have hs3:=(Array.getElem?_eq_some_iff.1 HC3.out).1
   refine hK.out _ _ HC3.out (fun _ => ?_)
   clear hK K hb3
   simp only [VI.val,VI.k,VI.b,VI.n,VI.f,VI.t,VI.A,VI.c,VI.l]
   try simp only [Act.put,List.setIfInBounds_toArray,List.set_cons_zero,List.set_cons_succ]
   apply sched_run;(exact rfl);rfl;intro K hK;go_simp
   refine (intItem_c kd _).mono ?_
   rintro e w4 ⟨rfl,hb4⟩
   have HC4:=Ld ((hb4.block _ hs3).trans HC3.out)
   have HB4:=Ld (HB3.out.trans (hb4.mono (by omega)))
   have HO4:=Ld (HO3.out.below hb4)
   have hs4:=(Array.getElem?_eq_some_iff.1 HC4.out).1
   refine hK.out _ _ HC4.out (fun _ => ?_)
   clear hK K hb4
   simp only [VI.val,VI.k,VI.b,VI.n,VI.f,VI.t,VI.A,VI.c,VI.l]
   try simp only [Act.put,List.setIfInBounds_toArray,List.set_cons_zero,List.set_cons_succ]
   apply sched_run;(exact rfl);rfl;intro K hK;go_simp
   have hb5:=(Below.refl w4.heap.size w4).alloc (Nat.le_refl _) (.cells #[.int .u8 5,.bool false,.int .i64 0,.float .f64 0,.string nm,.slice none 0 0,.int .u8 3,.bool false,.int .i64 kd,.float .f64 0,.string ⟨#[]⟩,.slice none 0 0,.int .u8 2,.bool nl,.int .i64 0,.float .f64 0,.string ⟨#[]⟩,.slice none 0 0] 54)
   refine hK.out _ _ ((hb5.block _ hs4).trans HC4.out) (fun _ => ?_)
   clear hK K
   try simp only [Act.put,List.setIfInBounds_toArray,List.set_cons_zero,List.set_cons_succ]
   apply sched_run;(exact rfl);rfl;intro K hK
   refine wp_items (B:=w.heap.size + 1) (l:=vInt keys :: (cols.take k).flatMap colRow) (ys:=colRow ⟨nm,kd,nl⟩) (.tmp 19) (.tmp 30) rfl (HO4.out.below hb5) rfl rfl (rd_items w4 _ (colRow ⟨nm,kd,nl⟩) rfl (g:=w4.heap.size) rfl rfl) rfl (colRow_rd _ _ HX.out) (colRow_blk _ _) (by have:=HLN.out;simp only [colRow,List.length_cons,List.length_nil] at this ⊢;omega) (by simp;omega) ?_
   intro v6 w6 hO6 hK6 _
   have hC6:=(hK6.block _ (by simp;omega) (own_ne_block (HO4.out.below hb5).own ((hb5.block _ hs4).trans HC4.out) (by decide))).trans ((hb5.block _ hs4).trans HC4.out)
   have HB6:=Ld ((HB4.out.trans (hb5.mono (by omega))).trans (hK6.below (by simp;omega) (fun j hj e => by have:=(HO4.out.own.lt j e).1;omega)))
   have HO6:=Ld hO6
   refine hK.out _ _ hC6 (fun _ => ?_)
   clear hK K hb5 hO6 hK6 hC6
   try simp only [Act.put,List.setIfInBounds_toArray,List.set_cons_zero,List.set_cons_succ]
   repeat (apply sched_take;(exact rfl);rfl;(intro W hW;go_simp;(try with_reducible rfl));simp only [Act.put,List.setIfInBounds_toArray,List.set_cons_zero,List.set_cons_succ])
   refine sched_done ?_
   go_wp2
   refine ⟨⟨k + 1,by omega,by go_num,HB6,?_⟩,by simp [intOf];omega⟩
   rw [HTK.out]
   exact HO6
  ·have hke : k = cols.length:=by omega
   subst hke
   have hrow : vInt keys :: (cols.take cols.length).flatMap colRow = tabRow ⟨tn,cols,keys⟩:=by rw [List.take_length];rfl
   rw [hrow] at hO
   obtain ⟨RA,rc,hv,hRI⟩:=hO.out.rdi (by rw [← hrow,List.length_cons,colRow_len,List.length_take];omega)
   subst hv
   have HRI:=Ld hRI
   have HM:=Ld (cell_keep HC.out (Nat.le_refl _) hB.out)
   clear hRI hrow
   by_cases hchk : chkL (VI.dataL (tabRow ⟨tn,cols,keys⟩)) = 0
   ·have HPE:=Ld (show packE (VI.dataL (tabRow ⟨tn,cols,keys⟩)) = .tuple #[.string ⟨(textB ⟨tn,cols,keys⟩).toArray⟩,.int .i64 0] by rw [packE,if_pos hchk,textB,if_pos hchk])
    clear hchk
    go_wp2_with (go_at_call 48;go_must (refine (Pack_c RA rc (tabRow ⟨tn,cols,keys⟩) _ HRI.out HM.out).mono ?_;rintro e w7 ⟨rfl,hb7⟩;rw [HPE.out];have HB7:=Ld hb7;clear hb7))
    go_ret
    exact ⟨rfl,hB.out.trans (HB7.out.mono hB.out.size)⟩
   ·have HPE:=Ld (show packE (VI.dataL (tabRow ⟨tn,cols,keys⟩)) = .tuple #[.string ⟨(textB ⟨tn,cols,keys⟩).toArray⟩,.int .i64 (chkL (VI.dataL (tabRow ⟨tn,cols,keys⟩)))] by rw [packE,if_neg hchk,textB,if_neg hchk])
    clear hchk
    go_wp2_with (go_at_call 48;go_must (refine (Pack_c RA rc (tabRow ⟨tn,cols,keys⟩) _ HRI.out HM.out).mono ?_;rintro e w7 ⟨rfl,hb7⟩;rw [HPE.out];have HB7:=Ld hb7;clear hb7))
    go_ret
    exact ⟨rfl,hB.out.trans (HB7.out.mono hB.out.size)⟩
end
section
open Go.RowKit
set_option maxHeartbeats 1000000
set_option maxRecDepth 100000
def chkT (pg wd : Int) (t : TabD) : Nat:=if right pg wd = false then 2 else if shapedB t = false then 250 else if pg / 8 < (textB t).length then 4 else 0
theorem right_pg {pg wd : Int} (h : right pg wd = true) : (pg = 1024 ∨ pg = 2048 ∨ pg = 4096 ∨ pg = 8192) ∧ 1 ≤ wd ∧ wd ≤ 32:=by simpa [right] using h
theorem shaped_len {t : TabD} (h : shapedB t = true) : 1 ≤ t.cols.length ∧ t.cols.length ≤ 16 ∧ 1 ≤ t.keys ∧ t.keys ≤ t.cols.length:=by
 simp only [shapedB,Bool.and_eq_true,decide_eq_true_eq] at h
 exact ⟨h.1.1.1.1.2,h.1.1.1.2,h.1.1.2,h.1.2⟩
theorem boxes_ft {w W : World} {a b c d e : Value} (h : Below (w.heap.size + 2) ((w.alloc (.cells #[a,b] 24)).alloc (.cells #[c,d,e] 27)) W) :
 (W.cell? ⟨w.heap.size,0,none⟩ = some a ∧ W.cell? ⟨w.heap.size,1,none⟩ = some b) ∧ (W.cell? ⟨w.heap.size + 1,0,none⟩ = some c ∧ W.cell? ⟨w.heap.size + 1,1,none⟩ = some d ∧ W.cell? ⟨w.heap.size + 1,2,none⟩ = some e) ∧
   w.heap.size + 1 < W.heap.size ∧ Below w.heap.size w W:=by
 have h0 : W.heap[w.heap.size]? = some (.cells #[a,b] 24 (0,0)):=(h.block _ (by omega)).trans ((((Below.refl _ _).alloc (Nat.le_refl _) _).block _ (by simp)).trans (heap_alloc_new w _))
 have h1 : W.heap[w.heap.size + 1]? = some (.cells #[c,d,e] 27 (0,0)):=(h.block _ (by omega)).trans (alloc2_at w _ _)
 exact ⟨⟨cell_of_row _ _ 0 _ _ _ h0,cell_of_row _ _ 1 _ _ _ h0⟩,box3 h1,(Array.getElem?_eq_some_iff.1 h1).1,(two_below w _ _).trans (h.mono (by omega))⟩
theorem Check_rows_c (pg wd : Int) (A : Option Addr) (c : Nat) (t : TabD) (w : World) (hR : RdT w A c t) (hcell : ∃ m,w.cell? ⟨1,0,none⟩ = some (.int .i64 m)) :
 Calls Tryz.prog 27 #[vF pg wd,vT t A c] w fun e w' => e = .returned (.int .i64 (chkT pg wd t)) ∧ Below w.heap.size w w':=by
 have HR:=Ld hR
 have HC:=Ld hcell
 rcases t with ⟨tn,cols,keys⟩
 have HBX:=Ld (fun W (h : Below (w.heap.size + 2) ((w.alloc (.cells #[.int .i64 pg,.int .i64 wd] 24)).alloc (.cells #[.string tn,.slice A cols.length c,.int .i64 keys] 27)) W) => boxes_ft h)
 clear hR hcell
 by_cases h1 : right pg wd = true
 ·have HPG:=Ld (right_pg h1)
  by_cases h2 : shapedB ⟨tn,cols,keys⟩ = true
  ·have HSL:=Ld (shaped_len h2)
   have HCT:=Ld (show chkT pg wd ⟨tn,cols,keys⟩ = if pg / 8 < (textB ⟨tn,cols,keys⟩).length then 4 else 0 by rw [chkT,if_neg (by rw [h1];decide),if_neg (by rw [h2];decide)])
   have H1:=Ld h1
   have H2:=Ld h2
   clear h1 h2
   go_enter Tryz.func27,Tryz.ntmps27
   go_wp2_with (first
    | (go_at_call 56;go_must (refine (right_c pg wd _).mono ?_;rintro e w1 ⟨rfl,hb1⟩;rw [H1.out];have HB1:=Ld (hb1.mono (show w.heap.size + 2 ≤ _ by simp));obtain ⟨⟨q0,q1⟩,⟨q2,q3,q4⟩,q5,q6⟩:=HBX.out _ HB1.out;have HW1:=Ld q6;clear hb1 q6))
    | (go_at_call 57;go_must (refine (shaped_c A c ⟨tn,cols,keys⟩ _ (HR.out.below HW1.out)).mono ?_;rintro e w2 ⟨rfl,hb2⟩;rw [H2.out];have HB2:=Ld (HB1.out.trans (hb2.mono (show w.heap.size + 2 ≤ _ by omega)));clear q0 q1 q2 q3 q4 q5;obtain ⟨⟨q0,q1⟩,⟨q2,q3,q4⟩,q5,q6⟩:=HBX.out _ HB2.out;have HW2:=Ld q6;clear hb2 q6)))
   refine wp_region_sched (S:=fun W => Below (w.heap.size + 2) ((w.alloc (.cells #[.int .i64 pg,.int .i64 wd] 24)).alloc (.cells #[.string tn,.slice A cols.length c,.int .i64 keys] 27)) W) [(0,true),(3,true),(1,false),(2,true),(4,false),(5,true),(6,true)] (by kernel_rfl) (by kernel_rfl) (by kernel_rfl) (fun _ _ d _ _ h => by cases d <;> exact h) HB2.out.drew ?_
   clear q0 q1 q2 q3 q4
   repeat (apply sched_take;(exact rfl);rfl;(intro W hW;obtain ⟨⟨q0,q1⟩,⟨q2,q3,q4⟩,q5,q6⟩:=HBX.out W hW;clear q6;go_simp;(try with_reducible rfl));simp only [Act.put,List.setIfInBounds_toArray,List.set_cons_zero,List.set_cons_succ])
   apply sched_run;(exact rfl);rfl;intro K hK;go_simp
   refine (text_row_c A c ⟨tn,cols,keys⟩ w2.drew (HR.out.below HW2.out.drew) HSL.out.2.1 (cell_keep HC.out (Nat.le_refl _) HW2.out.drew)).mono ?_
   rintro e w3 ⟨rfl,hb3⟩
   have HB3:=Ld (HB2.out.drew.trans (hb3.mono (show w.heap.size + 2 ≤ w2.drew.heap.size from q5)))
   refine hK.out _ _ HB3.out (fun _ => ?_)
   clear hK K hb3
   try simp only [Act.put,List.setIfInBounds_toArray,List.set_cons_zero,List.set_cons_succ]
   repeat (apply sched_take;(exact rfl);rfl;(intro W hW;go_simp;(try with_reducible rfl));simp only [Act.put,List.setIfInBounds_toArray,List.set_cons_zero,List.set_cons_succ])
   apply sched_run;(exact rfl);rfl;intro K hK;go_simp
   refine (maxVal_c pg wd _ (by have:=HPG.out;omega) (by have:=HPG.out;omega)).mono ?_
   rintro e w4 ⟨rfl,hb4⟩
   obtain ⟨_,_,q7,_⟩:=HBX.out _ HB3.out
   have HB4:=Ld (HB3.out.trans (hb4.mono (show w.heap.size + 2 ≤ _ by omega)))
   refine hK.out _ _ HB4.out (fun _ => ?_)
   clear hK K hb4 q7
   try simp only [Act.put,List.setIfInBounds_toArray,List.set_cons_zero,List.set_cons_succ]
   repeat (apply sched_take;(exact rfl);rfl;(intro W hW;go_simp;(try with_reducible rfl));simp only [Act.put,List.setIfInBounds_toArray,List.set_cons_zero,List.set_cons_succ])
   refine sched_done ?_
   obtain ⟨_,_,_,q8⟩:=HBX.out _ HB4.out
   have HW4:=Ld q8
   have HSZ:=Ld (show (⟨(textB ⟨tn,cols,keys⟩).toArray⟩ : ByteArray).size = (textB ⟨tn,cols,keys⟩).length by simp [ByteArray.size])
   clear q8 q5
   clear HSZ
   go_wp2
   ·have hlt:=‹pg / 8 < ((textB ⟨tn,cols,keys⟩).length : Int)›
    go_ret
    exact ⟨ret_eq (by rw [HCT.out,if_pos hlt];rfl),HW4.out⟩
   ·have hlt:=‹((textB ⟨tn,cols,keys⟩).length : Int) ≤ pg / 8›
    go_ret
    exact ⟨ret_eq (by rw [HCT.out,if_neg (by omega)];rfl),HW4.out⟩
  ·have h2' : shapedB ⟨tn,cols,keys⟩ = false:=by simpa using h2
   have HCT:=Ld (show chkT pg wd ⟨tn,cols,keys⟩ = 250 by rw [chkT,if_neg (by rw [h1];decide),if_pos h2'])
   have H1:=Ld h1
   have H2:=Ld h2'
   clear h1 h2 h2'
   go_enter Tryz.func27,Tryz.ntmps27
   go_wp2_with (first
    | (go_at_call 56;go_must (refine (right_c pg wd _).mono ?_;rintro e w1 ⟨rfl,hb1⟩;rw [H1.out];have HB1:=Ld (hb1.mono (show w.heap.size + 2 ≤ _ by simp));obtain ⟨⟨q0,q1⟩,⟨q2,q3,q4⟩,q5,q6⟩:=HBX.out _ HB1.out;have HW1:=Ld q6;clear hb1 q6))
    | (go_at_call 57;go_must (refine (shaped_c A c ⟨tn,cols,keys⟩ _ (HR.out.below HW1.out)).mono ?_;rintro e w2 ⟨rfl,hb2⟩;rw [H2.out];have HB2:=Ld (HB1.out.trans (hb2.mono (show w.heap.size + 2 ≤ _ by omega)));clear q0 q1 q2 q3 q4 q5;obtain ⟨⟨q0,q1⟩,⟨q2,q3,q4⟩,q5,q6⟩:=HBX.out _ HB2.out;have HW2:=Ld q6;clear hb2 q6)))
   go_ret
   exact ⟨ret_eq (by rw [HCT.out];rfl),HW2.out⟩
 ·have h1' : right pg wd = false:=by simpa using h1
  have HCT:=Ld (show chkT pg wd ⟨tn,cols,keys⟩ = 2 by rw [chkT,if_pos h1'])
  have H1:=Ld h1'
  clear h1 h1'
  go_enter Tryz.func27,Tryz.ntmps27
  go_wp2_with (go_at_call 56;go_must (refine (right_c pg wd _).mono ?_;rintro e w1 ⟨rfl,hb1⟩;rw [H1.out];have HB1:=Ld (hb1.mono (show w.heap.size + 2 ≤ _ by simp));obtain ⟨⟨q0,q1⟩,⟨q2,q3,q4⟩,q5,q6⟩:=HBX.out _ HB1.out;have HW1:=Ld q6;clear hb1 q6))
  go_ret
  exact ⟨ret_eq (by rw [HCT.out];rfl),HW1.out⟩
end
section
open Go.RowKit
set_option maxHeartbeats 1000000
set_option maxRecDepth 100000
def fitX (c : ColD) (x : ItemD) : Bool:=decide (chkL [x] = 0) && (decide (x.k = c.kind) || (decide (x.k = 1) && c.null))
def fitL : List ColD → List ItemD → Bool
 | _,[] => true
 | [],_ :: _ => false
 | c :: cs,x :: l => fitX c x && fitL cs l
theorem fitL_drop (cs : List ColD) (l : List ItemD) (k : Nat) (h1 : k < cs.length) (h2 : k < l.length) : fitL (cs.drop k) (l.drop k) = (fitX cs[k] l[k] && fitL (cs.drop (k + 1)) (l.drop (k + 1))):=by
 rw [List.drop_eq_getElem_cons h1,List.drop_eq_getElem_cons h2,fitL]
theorem fitL_nil (cs : List ColD) : fitL cs [] = true:=by cases cs <;> rw [fitL]
theorem fitL_long : ∀ (cs : List ColD) (l : List ItemD),cs.length < l.length → fitL cs l = false
 | cs,[],h => by simp at h
 | [],x :: l,_ => by rw [fitL]
 | c :: cs,x :: l,h => by rw [fitL,fitL_long cs l (by simpa using h),Bool.and_false]
theorem one_rd [Inhabited Thr] {w W : World} {x : VI} (hx : RdV w x) (W0 : World) (hb : Below w.heap.size w W0) {g : Nat} (hg : g = W0.heap.size) (hW : W = W0.alloc (.cells x.cells.toArray 54)) : RdI W (some ⟨g,0,none⟩) 1 [x]:=by
 subst hW
 refine ⟨rd_items W0 _ [x] (by simp [icells]) hg rfl,by simp,by simp,?_⟩
 intro y hy
 obtain rfl : y = x:=by simpa using hy
 exact (hx.grow hb).grow ((Below.refl _ _).alloc (Nat.le_refl _) _)
theorem fit_c [Inhabited Thr] (A : Option Addr) (c : Nat) (t : TabD) (B : Option Addr) (d : Nat) (l : List VI) (w : World) (hR : RdT w A c t) (hL : RdI w B d l) :
 Calls Tryz.prog 47 #[vT t A c,.slice B l.length d] w fun e w' => e = .returned (.bool (fitL t.cols (VI.dataL l))) ∧ Below w.heap.size w w':=by
 have HR:=Ld hR
 have HL:=Ld hL
 rcases t with ⟨tn,cols,keys⟩
 have hlen:=hR.hb
 have hlen2:=hL.hb
 have HDL:=Ld (show (VI.dataL l).length = l.length by rw [dataL_eq,List.length_map])
 simp only at hlen
 clear hR hL
 by_cases hlong : cols.length < l.length
 ·have HF:=Ld (fitL_long cols (VI.dataL l) (by rw [HDL.out];exact hlong))
  go_enter Tryz.func47,Tryz.ntmps47
  go_wp2
  go_ret
  exact ⟨ret_eq (by rw [HF.out];rfl),(Below.refl _ _).alloc (Nat.le_refl _) _⟩
 ·go_enter Tryz.func47,Tryz.ntmps47
  go_wp2
  go_loopw [15] (fun i wr => ∃ k : Nat,k ≤ l.length ∧ i = .int .i64 k ∧ Hid (fitL cols (VI.dataL l) = fitL (cols.drop k) ((VI.dataL l).drop k)) ∧ Hid (Below w.heap.size w wr) ∧ Hid (wr.heap[w.heap.size]? = some (.cells #[.string tn,.slice A cols.length c,.int .i64 keys] 27 (0,0)))) (fun i _ => l.length - (intOf i).toNat)
  case atStart => exact ⟨0,Nat.zero_le _,rfl,Ld rfl,Ld ((Below.refl _ _).alloc (Nat.le_refl _) _),Ld (heap_alloc_new w _)⟩
  case round =>
   obtain ⟨k,hk,rfl,hf,hB,hrow⟩:=hrel
   by_cases hlt : k < l.length
   ·have HRr:=Ld (HR.out.below hB.out)
    have HLr:=Ld (HL.out.below hB.out)
    obtain ⟨bb,bo,rfl⟩ : ∃ ab ao,B = some ⟨ab,ao,none⟩:=by obtain ⟨b,o,e,_⟩:=HLr.out.rd.2 (by omega);exact ⟨b,o,e⟩
    obtain ⟨ab,ao,rfl⟩ : ∃ ab ao,A = some ⟨ab,ao,none⟩:=by obtain ⟨b,o,e,_⟩:=HRr.out.rd.2 (show 0 < cols.length by omega);exact ⟨b,o,e⟩
    obtain ⟨p0,p1,p2,p3,p4,p5⟩:=item_at HLr.out.rd hlt
    have HX:=Ld (HL.out.hx _ (List.getElem_mem hlt))
    have HFD:=Ld (fitL_drop cols (VI.dataL l) k (by omega) (by rw [HDL.out];exact hlt))
    rw [data_at l k hlt] at HFD
    have hck : k < cols.length:=by omega
    have HCO:=Ld (fun W (h : Below w.heap.size w W) => col_at (HR.out.below h).rd hck)
    obtain ⟨x,hx⟩ : ∃ x,l[k] = x:=⟨_,rfl⟩
    rw [hx] at p0 p1 p2 p3 p4 p5 HX HFD
    clear hx
    obtain ⟨cx,hcx⟩ : ∃ x,cols[k] = x:=⟨_,rfl⟩
    simp only [hcx] at HCO HFD
    clear hcx
    have hxk:=HX.out.hk
    rcases x with ⟨xk,xb,xn,xf,xt,xA,xc,xl⟩
    rcases cx with ⟨cn,ck,cl⟩
    simp only [VI.k,VI.b,VI.n,VI.f,VI.t,VI.A,VI.c,VI.l] at p0 p1 p2 p3 p4 p5 hxk
    have HFX:=Ld (show fitX ⟨cn,ck,cl⟩ (VI.mk xk xb xn xf xt xA xc xl).data = (decide (chkL (VI.dataL [(VI.mk xk xb xn xf xt xA xc xl)]) = 0) && (decide (xk = ck) || (decide (xk = 1) && cl))) by rw [fitX,data_k,show VI.dataL [(VI.mk xk xb xn xf xt xA xc xl)] = [(VI.mk xk xb xn xf xt xA xc xl).data] by simp [VI.dataL]];rfl)
    have HW0:=Ld (show Below w.heap.size w (wr.alloc (.cells #[.int .u8 xk,.bool xb,.int .i64 xn,.float .f64 xf,.string xt,.slice xA xl.length xc] 54)) from hB.out.alloc hB.out.size _)
    have HRX:=Ld (one_rd HX.out (wr.alloc (.cells #[.int .u8 xk,.bool xb,.int .i64 xn,.float .f64 xf,.string xt,.slice xA xl.length xc] 54)) HW0.out (g:=wr.heap.size + 1) (by simp) rfl)
    have hsz:=hB.out.size
    go_wp2_with (first
     | (go_at_call 29;go_must (refine (Check_c _ 1 [(VI.mk xk xb xn xf xt xA xc xl)] _ HRX.out).mono ?_;rintro e w2 ⟨rfl,hb2⟩;have HB2:=Ld (HW0.out.trans (((Below.refl _ _).alloc (Nat.le_refl _) (.cells #[.int .u8 xk,.bool xb,.int .i64 xn,.float .f64 xf,.string xt,.slice xA xl.length xc] 54) |>.trans (hb2.mono (by simp))).mono HW0.out.size));obtain ⟨k0,k1,k2⟩:=HCO.out _ HB2.out;have HI2:=Ld ((hb2.block wr.heap.size (by simp;omega)).trans ((((Below.refl _ _).alloc (Nat.le_refl _) (.cells #[.int .u8 xk,.bool xb,.int .i64 xn,.float .f64 xf,.string xt,.slice xA xl.length xc] 54)).block _ (by simp)).trans (heap_alloc_new wr (.cells #[.int .u8 xk,.bool xb,.int .i64 xn,.float .f64 xf,.string xt,.slice xA xl.length xc] 54))));have hrow2:=(hb2.block w.heap.size (by have:=(Array.getElem?_eq_some_iff.1 hrow.out).1;simp;omega)).trans (((two_below wr (.cells #[.int .u8 xk,.bool xb,.int .i64 xn,.float .f64 xf,.string xt,.slice xA xl.length xc] 54) (.cells #[.int .u8 xk,.bool xb,.int .i64 xn,.float .f64 xf,.string xt,.slice xA xl.length xc] 54)).block _ (Array.getElem?_eq_some_iff.1 hrow.out).1).trans hrow.out);have HT2:=Ld hrow2;obtain ⟨y0,y1,y2⟩:=box3 hrow2;obtain ⟨z0,z1,z2,z3,z4,z5⟩:=cells6 HI2.out;clear hb2 hrow2 p0 p1 p2 p3 p4 p5)))
    ·have hne:=‹((chkL (VI.dataL [VI.mk xk xb xn xf xt xA xc xl]) : Int) != 0) = true›
     have hc : fitX ⟨cn,ck,cl⟩ (VI.mk xk xb xn xf xt xA xc xl).data = false:=by rw [HFX.out,decide_eq_false (fun h => by rw [h] at hne;simp at hne)];rfl
     go_ret
     exact ⟨ret_eq (by rw [hf.out,HFD.out,hc];rfl),HB2.out⟩
    ·have h0:=int_zero ‹((chkL (VI.dataL [VI.mk xk xb xn xf xt xA xc xl]) : Int) != 0) = false›
     have hkk:=‹(xk == ck) = true›
     have hc : fitX ⟨cn,ck,cl⟩ (VI.mk xk xb xn xf xt xA xc xl).data = true:=by rw [HFX.out,decide_eq_true h0,decide_eq_true (show xk = ck by simpa using hkk)];rfl
     exact ⟨⟨k + 1,by omega,by go_num,Ld (by rw [hf.out,HFD.out,hc];rfl),HB2,HT2⟩,by simp [intOf];omega⟩
    ·have h0:=int_zero ‹((chkL (VI.dataL [VI.mk xk xb xn xf xt xA xc xl]) : Int) != 0) = false›
     have hkk:=‹(xk == ck) = false›
     have hcl : cl = false:=by have:=‹(!cl) = true›;simpa using this
     have hc : fitX ⟨cn,ck,cl⟩ (VI.mk xk xb xn xf xt xA xc xl).data = false:=by rw [HFX.out,decide_eq_true h0,decide_eq_false (show ¬ xk = ck by simpa using hkk),hcl];simp
     go_ret
     exact ⟨ret_eq (by rw [hf.out,HFD.out,hc];rfl),HB2.out⟩
    ·have h0:=int_zero ‹((chkL (VI.dataL [VI.mk xk xb xn xf xt xA xc xl]) : Int) != 0) = false›
     have hkk:=‹(xk == 1) = true›
     have hcl : cl = true:=by have:=‹(!cl) = false›;simpa using this
     have hc : fitX ⟨cn,ck,cl⟩ (VI.mk xk xb xn xf xt xA xc xl).data = true:=by rw [HFX.out,decide_eq_true h0,decide_eq_true (show xk = 1 by simpa using hkk),hcl];simp
     exact ⟨⟨k + 1,by omega,by go_num,Ld (by rw [hf.out,HFD.out,hc];rfl),HB2,HT2⟩,by simp [intOf];omega⟩
    ·have h0:=int_zero ‹((chkL (VI.dataL [VI.mk xk xb xn xf xt xA xc xl]) : Int) != 0) = false›
     have hkk:=‹(xk == ck) = false›
     have hk1:=‹(xk == 1) = false›
     have hc : fitX ⟨cn,ck,cl⟩ (VI.mk xk xb xn xf xt xA xc xl).data = false:=by rw [HFX.out,decide_eq_true h0,decide_eq_false (show ¬ xk = ck by simpa using hkk),decide_eq_false (show ¬ xk = 1 by simpa using hk1)];rfl
     go_ret
     exact ⟨ret_eq (by rw [hf.out,HFD.out,hc];rfl),HB2.out⟩
   ·go_wp2
    go_ret
    have hk' : (VI.dataL l).drop k = []:=List.drop_eq_nil_of_le (by rw [HDL.out];omega)
    exact ⟨ret_eq (by rw [hf.out,hk',fitL_nil];rfl),hB.out⟩
end
section
open Go.RowKit
set_option maxHeartbeats 1000000
set_option maxRecDepth 100000
def underL (t : TabD) (l : List ItemD) : List ItemD:=.mk 5 false 0 0 t.name [] :: l
theorem under_data (t : TabD) (l : List VI) : VI.dataL (vText t.name :: l) = underL t (VI.dataL l):=by simp [VI.dataL,VI.data,underL]
theorem under_c [Inhabited Thr] (A : Option Addr) (c : Nat) (t : TabD) (B : Option Addr) (d : Nat) (l : List VI) (w : World) (hn : t.name.size ≤ 140737488355328) (hL : RdI w B d l) (hl : l.length ≤ 1000) :
 Calls Tryz.prog 49 #[vT t A c,.slice B l.length d] w fun e w' => ∃ A' c',e = .returned (.slice A' (l.length + 1) c') ∧ RdI w' A' c' (vText t.name :: l) ∧ Below w.heap.size w w':=by
 have HL:=Ld hL
 have HN:=Ld hn
 rcases t with ⟨tn,cols,keys⟩
 clear hL hn
 go_enter Tryz.func49,Tryz.ntmps49
 go_wp2_with (first
  | (go_at_call 85;go_must (refine (textItem_c tn _).mono ?_;rintro e w1 ⟨rfl,hb1⟩;simp only [VI.val,VI.k,VI.b,VI.n,VI.f,VI.t,VI.A,VI.c,VI.l,List.length_nil];have HB1:=Ld ((Below.refl w.heap.size w).alloc (Nat.le_refl _) (.cells #[.string tn,.slice A cols.length c,.int .i64 keys] 27) |>.trans (hb1.mono (by simp)));clear hb1))
  | (at_builtin;go_must (have HO:=Ld (OwnI.laid w1 #[.int .u8 5,.bool false,.int .i64 0,.float .f64 0,.string tn,.slice none 0 0] [vText tn] rfl (by simp) (n:=1) rfl rfl HB1.out.size (by intro y hy;obtain rfl : y = vText tn:=(by simpa using hy);exact RdV.plain _ _ _ _ _ _ HN.out (by decide) (by decide) (by decide)));have hb2:=(Below.refl w1.heap.size w1).alloc (Nat.le_refl _) (.cells #[.int .u8 5,.bool false,.int .i64 0,.float .f64 0,.string tn,.slice none 0 0] 54);have HL2:=Ld (HL.out.below (HB1.out.trans (hb2.mono HB1.out.size)));refine wpList_items (B:=w.heap.size) (l:=[vText tn]) (ys:=l) rfl (.tmp 8) (.tmp 9) rfl HO.out rfl rfl HL2.out.rd rfl HL2.out.hx (fun y hy => (HL.out.hx y hy).blk.mono fun k hk e => by have:=HO.out.own.lt k e;omega) (by simp;omega) (by have:=HB1.out.size;simp;omega) ?_;intro v2 w3 hO2 hK2 _;have HO2:=Ld hO2;have HK2:=Ld ((HB1.out.trans (hb2.mono HB1.out.size)).trans (hK2.below (by have:=HB1.out.size;simp;omega) (fun j hj e => by have:=(HO.out.own.lt j e).1;omega)));clear hO2 hK2 hb2)))
 go_ret
 obtain ⟨A',c',rfl,hRI⟩:=HO2.out.rdi (by simp;omega)
 exact ⟨A',c',by simp,hRI,HK2.out⟩
end
end Go.Proofs.YtonjgedhmmnolaaGreatDoor
