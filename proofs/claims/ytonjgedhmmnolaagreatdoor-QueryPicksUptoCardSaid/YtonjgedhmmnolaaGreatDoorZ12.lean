import Derived.Test.YtonjgedhmmnolaaGreatDoorZ11
namespace Go.Proofs.YtonjgedhmmnolaaGreatDoor
section
open Go.RowKit
set_option maxHeartbeats 1000000
set_option maxRecDepth 100000
def testD (t : TabD) (c : CondD) (row : List ItemD) : Bool:=holdsP c.kind (cmpI (row.getD (findC t c.col).toNat (VI.mk 0 false 0 0 ⟨#[]⟩ none 0 []).data) c.item.data)
def badL (t : TabD) (row : List ItemD) : List CondD → Nat → Int
 | [],_ => -1
 | c :: l,i => if testD t c row = true then badL t row l (i + 1) else i
def keepD (t : TabD) (wh : List CondD) (row : List ItemD) : Bool:=wh.all fun c => testD t c row
theorem badL_keep (t : TabD) (row : List ItemD) (l : List CondD) (i : Nat) : decide (0 ≤ badL t row l i) = !keepD t l row:=by
 induction l generalizing i with
 | nil => rfl
 | cons c l ih =>
   by_cases h : testD t c row = true
   ·simp only [badL,keepD,List.all_cons,h,Bool.true_and,if_true];exact ih _
   ·rw [badL,if_neg h,decide_eq_true (by omega)];simp [keepD,h]
theorem badL_drop (t : TabD) (row : List ItemD) (T : List TestV) (k : Nat) (h : k < T.length) {x : TestV} (hx : T[k] = x) : badL t row ((T.drop k).map (·.c)) k = if testD t x.c row = true then badL t row ((T.drop (k + 1)).map (·.c)) (k + 1) else k:=by
 rw [List.drop_eq_getElem_cons h,List.map_cons,badL,hx]
theorem pick1_c [Inhabited Thr] (t : TabD) (x : TestV) (g : Nat) (A : Option Addr) (c : Nat) (l : List VI) (w : World) (hx : TestAt w t x) (hX : RdV w x.c.item) (hL : RdI w A c l) (hg : w.cell? ⟨g,0,none⟩ = some (.slice A l.length c))
 (hk : 0 ≤ findC t x.c.col ∧ findC t x.c.col < l.length) : Calls Tryz.prog 38 #[x.val,.pointer (some ⟨g,0,none⟩)] w fun e w' => e = .returned (.bool (!testD t x.c (VI.dataL l))) ∧ Below w.heap.size w w':=by
 obtain ⟨k,hkk⟩ : ∃ k : Nat,findC t x.c.col = k:=⟨(findC t x.c.col).toNat,by omega⟩
 have hkl : k < l.length:=by omega
 have HL:=Ld hL
 have HX:=Ld hX
 have hx2:=hx.2
 rw [hkk] at hx2
 have HK:=Ld (show w.cell? ⟨x.g2,0,none⟩ = some (.int .i64 (k : Int)) from cell_of_row _ _ 0 _ _ _ hx2)
 have HC:=Ld hx.1
 have HE:=Ld (show testD t x.c (VI.dataL l) = holdsP x.c.kind (cmpI l[k].data x.c.item.data) by
  have hd:=data_at l k hkl
  have hl : k < (VI.dataL l).length:=by rw [dataL_eq,List.length_map];exact hkl
  rw [testD,hkk,Int.toNat_natCast,List.getD_eq_getElem?_getD,List.getElem?_eq_getElem hl,hd];rfl)
 have HKL:=Ld hkl
 rcases x with ⟨g1,g2,⟨xc,xk,⟨ik,ib,iN,iF,it,iA,ic,il⟩⟩⟩
 obtain ⟨tb,htb⟩ : ∃ b,testD t ⟨xc,xk,.mk ik ib iN iF it iA ic il⟩ (VI.dataL l) = b:=⟨_,rfl⟩
 have HTB:=Ld htb
 simp only at HE
 rw [HTB.out] at HE
 simp only
 rw [HTB.out]
 simp only [VI.k,VI.b,VI.n,VI.f,VI.t,VI.A,VI.c,VI.l,TestV.val] at HX HK HC HE ⊢
 clear hL hX hx hx2 hk hkk htb
 go_enter Tryz.func38,Tryz.ntmps38
 go_wp2_with (go_at_call 67;go_must (refine (test1_c xc xk ik ib iN iF it iA ic il g1 g2 A c k l _ HX.out HC.out HK.out HL.out HKL.out).mono ?_;rw [← HE.out];rintro e w1 ⟨rfl,hb⟩;have HB1:=Ld hb;clear hb))
 go_ret
 exact ⟨rfl,HB1.out⟩
theorem indexT_c [Inhabited Thr] (t : TabD) (T : List TestV) (A' : Option Addr) (c' : Nat) (g : Nat) (A : Option Addr) (c : Nat) (l : List VI) (w : World) (hT : Rd w 1 A' T.length (T.map TestV.val)) (hTl : T.length * 8 ≤ 140737488355328) (hx : ∀ x ∈ T,TestAt w t x ∧ RdV w x.c.item ∧ 0 ≤ findC t x.c.col ∧ findC t x.c.col < l.length) (hL : RdI w A c l)
 (hg : w.cell? ⟨g,0,none⟩ = some (.slice A l.length c)) :
 Calls Tryz.prog 69 #[.slice A' T.length c',.func (.func 38) #[] #[.pointer (some ⟨g,0,none⟩)]] w fun e w' => e = .returned (.int .i64 (badL t (VI.dataL l) (T.map (·.c)) 0)) ∧ Below w.heap.size w w':=by
 have hgl : g < w.heap.size:=World.block_lt_of_cell? w _ hg
 have HT:=Ld hT
 have HX:=Ld hx
 have HL:=Ld hL
 have HG:=Ld (fun W (h : Below w.heap.size w W) => (h.cell (p:=⟨g,0,none⟩) hgl).trans hg)
 obtain ⟨V,hV⟩ : ∃ V,VI.dataL l = V:=⟨_,rfl⟩
 have HV:=Ld hV
 rw [HV.out]
 clear hT hx hL hg hgl hV
 go_enter Tryz.func69,Tryz.ntmps69
 go_wp2
 go_loopw [8] (fun i wr => ∃ k : Nat,k ≤ T.length ∧ i = .int .i64 k ∧ Hid (badL t V (T.map (·.c)) 0 = badL t V ((T.drop k).map (·.c)) k) ∧ Hid (Below w.heap.size w wr)) (fun i _ => T.length - (intOf i).toNat)
 case atStart => exact ⟨0,Nat.zero_le _,rfl,Ld rfl,Ld (Below.refl _ _)⟩
 case round =>
  obtain ⟨k,hk,rfl,hf,hB⟩:=hrel
  by_cases hlt : k < T.length
  ·have HTr:=Ld (HT.out.below hB.out)
   obtain ⟨ab,ao,rfl⟩ : ∃ ab ao,A' = some ⟨ab,ao,none⟩:=by obtain ⟨b,o,e,_⟩:=HTr.out.2 (by omega);exact ⟨b,o,e⟩
   have p0 : wr.cell? ⟨ab,ao + k,none⟩ = some T[k].val:=by
    obtain ⟨b',o',e,hc⟩:=HTr.out.2 (by omega)
    cases e
    exact hc k _ (by rw [List.getElem?_map,List.getElem?_eq_getElem hlt];rfl)
   have HXk:=Ld (HX.out _ (List.getElem_mem hlt))
   have HBD:=Ld (fun x hx => badL_drop t V T k hlt (x:=x) hx)
   obtain ⟨x,hx⟩ : ∃ x,T[k] = x:=⟨_,rfl⟩
   have HBX:=Ld (HBD.out x hx)
   rw [hx] at p0 HXk
   clear hx HBD
   rw [TestV.val] at p0
   obtain ⟨tb,htb⟩ : ∃ tb,testD t x.c V = tb:=⟨_,rfl⟩
   have HTB:=Ld htb
   rw [HTB.out] at HBX
   clear htb
   cases tb with
   | false =>
     go_wp2_with (go_at_call 38;go_must (refine (pick1_c t x g A c l _ (HXk.out.1.below hB.out) (HXk.out.2.1.grow hB.out) (HL.out.below hB.out) (HG.out _ hB.out) HXk.out.2.2).mono ?_;rw [HV.out,HTB.out];rintro e w1 ⟨rfl,hb⟩;have HB1:=Ld hb;clear hb))
     go_ret
     exact ⟨ret_eq (by rw [hf.out,HBX.out];rfl),hB.out.trans (HB1.out.mono hB.out.size)⟩
   | true =>
     go_wp2_with (go_at_call 38;go_must (refine (pick1_c t x g A c l _ (HXk.out.1.below hB.out) (HXk.out.2.1.grow hB.out) (HL.out.below hB.out) (HG.out _ hB.out) HXk.out.2.2).mono ?_;rw [HV.out,HTB.out];rintro e w1 ⟨rfl,hb⟩;have HB1:=Ld hb;clear hb))
     exact ⟨⟨k + 1,by omega,by go_num,Ld (by rw [hf.out,HBX.out];rfl),Ld (hB.out.trans (HB1.out.mono hB.out.size))⟩,by simp [intOf];omega⟩
  ·have HN:=Ld (show T.drop k = [] from List.drop_eq_nil_of_le (by omega))
   go_wp2
   go_ret
   exact ⟨ret_eq (by rw [hf.out,HN.out];rfl),hB.out⟩
theorem containsT_c [Inhabited Thr] (t : TabD) (T : List TestV) (A' : Option Addr) (c' : Nat) (g : Nat) (A : Option Addr) (c : Nat) (l : List VI) (w : World) (hT : Rd w 1 A' T.length (T.map TestV.val)) (hTl : T.length * 8 ≤ 140737488355328) (hx : ∀ x ∈ T,TestAt w t x ∧ RdV w x.c.item ∧ 0 ≤ findC t x.c.col ∧ findC t x.c.col < l.length) (hL : RdI w A c l)
 (hg : w.cell? ⟨g,0,none⟩ = some (.slice A l.length c)) :
 Calls Tryz.prog 37 #[.slice A' T.length c',.func (.func 38) #[] #[.pointer (some ⟨g,0,none⟩)]] w fun e w' => e = .returned (.bool (!keepD t (T.map (·.c)) (VI.dataL l))) ∧ Below w.heap.size w w':=by
 have HT:=Ld hT
 have HX:=Ld hx
 have HL:=Ld hL
 have HG:=Ld hg
 have HTL:=Ld hTl
 have HBK:=Ld (badL_keep t (VI.dataL l) (T.map (·.c)) 0)
 obtain ⟨n,hn⟩ : ∃ n,badL t (VI.dataL l) (T.map (·.c)) 0 = n:=⟨_,rfl⟩
 have HN:=Ld hn
 rw [HN.out] at HBK
 rw [← HBK.out]
 clear hT hx hL hg hTl hn
 go_enter Tryz.func37,Tryz.ntmps37
 go_wp2_with (go_at_call 69;go_must (refine (indexT_c t T A' c' g A c l _ HT.out HTL.out HX.out HL.out HG.out).mono ?_;rw [HN.out];rintro e w1 ⟨rfl,hb⟩;have HB1:=Ld hb;clear hb))
 go_ret
 exact ⟨ret_eq (by first | rfl | simp),HB1.out⟩
end
section
open Go.RowKit
set_option maxHeartbeats 1000000
set_option maxRecDepth 100000
abbrev nilV : VI:=.mk 0 false 0 0 ⟨#[]⟩ none 0 []
abbrev nullV : VI:=.mk 1 false 0 0 ⟨#[]⟩ none 0 []
abbrev floatV (f : Nat) : VI:=.mk 4 false 0 f ⟨#[]⟩ none 0 []
theorem RdV.leaf [Inhabited Thr] (w : World) {k n : Int} {b : Bool} {f : Nat} (hk : 0 ≤ k ∧ k ≤ 255) (hn : -9223372036854775808 ≤ n ∧ n ≤ 9223372036854775807) (hf : f < 18446744073709551616) : RdV w (.mk k b n f ⟨#[]⟩ none 0 []) :=
 .mk _ .none_ (Nat.zero_le _) (by simp [VI.l]) (by show (0 : Nat) ≤ 140737488355328;decide) hk hf hn (by intro y hy;simp [VI.l] at hy) (by intro h;simp [VI.l] at h)
theorem BlkV.leaf {P : Nat → Prop} {k n : Int} {b : Bool} {f : Nat} {t : ByteArray} : BlkV P (.mk k b n f t none 0 []):=.mk _ (by intro h;simp [VI.l] at h) (by intro y hy;simp [VI.l] at hy)
def itemsV (a : Nat) (R : List VI) : List VI:=(R.map fun x => x.l.getD a nilV).filter fun y => decide (y.k ≠ 1)
def itemsD (a : Nat) (rows : List (List ItemD)) : List ItemD:=(rows.map fun x => x.getD a nilV.data).filter fun y => decide (y.k ≠ 1)
theorem items_data (a : Nat) (R : List VI) : VI.dataL (itemsV a R) = itemsD a (R.map fun x => VI.dataL x.l):=by
 induction R with
 | nil => simp [itemsV,itemsD,VI.dataL]
 | cons x R ih =>
   have hx : (VI.dataL x.l).getD a nilV.data = (x.l.getD a nilV).data:=by
    rw [dataL_eq,List.getD_eq_getElem?_getD,List.getD_eq_getElem?_getD,List.getElem?_map]
    cases x.l[a]? <;> rfl
   simp only [itemsV,itemsD,List.map_cons,List.filter_cons,hx,data_k] at ih ⊢
   by_cases h : (x.l.getD a nilV).k ≠ 1
   ·simp only [h,decide_true,if_true,VI.dataL,ih,ne_eq,not_false_eq_true]
   ·rw [decide_eq_false h];simpa using ih
def keepY (y : VI) : List VI:=if y.k = 1 then [] else [y]
theorem keepY_null {y : VI} (h : y.k = 1) : keepY y = []:=if_pos h
theorem keepY_some {y : VI} (h : ¬ y.k = 1) : keepY y = [y]:=if_neg h
theorem items_take (a : Nat) (R : List VI) (k : Nat) (h : k < R.length) {x : VI} (hx : R[k] = x) (ha : a < x.l.length) {y : VI} (hy : x.l[a] = y) : itemsV a (R.take (k + 1)) = itemsV a (R.take k) ++ keepY y:=by
 rw [List.take_succ_eq_append_getElem h,itemsV,itemsV,List.map_append,List.filter_append,List.map_singleton,hx,List.getD_eq_getElem?_getD,List.getElem?_eq_getElem ha,hy]
 by_cases hk : y.k = 1 <;> simp [hk,keepY]
theorem items_len (a : Nat) (R : List VI) : (itemsV a R).length ≤ R.length:=by
 have:=List.length_filter_le (fun y : VI => decide (y.k ≠ 1)) (R.map fun x => x.l.getD a nilV)
 simpa [itemsV] using this
def bestD (p : Int → Bool) : ItemD → List ItemD → ItemD
 | m,[] => m
 | m,y :: r => bestD p (if p (cmpI y m) then y else m) r
theorem best_data (p : Int → Bool) (m : VI) (l : List VI) : (bestL p m l).data = bestD p m.data (VI.dataL l):=by
 induction l generalizing m with
 | nil => simp [bestL,bestD,VI.dataL]
 | cons y l ih =>
   rw [bestL,ih,VI.dataL,bestD]
   by_cases h : p (cmpI y.data m.data) = true
   ·rw [if_pos h,if_pos h]
   ·rw [if_neg h,if_neg h]
theorem best_mem (p : Int → Bool) (m : VI) (l : List VI) : bestL p m l = m ∨ bestL p m l ∈ l:=by
 induction l generalizing m with
 | nil => exact .inl rfl
 | cons y l ih =>
   rw [bestL]
   rcases ih (if p (cmpI y.data m.data) = true then y else m) with h | h
   ·by_cases hp : p (cmpI y.data m.data) = true
    ·rw [if_pos hp] at h ⊢;right;rw [h];simp
    ·rw [if_neg hp] at h ⊢;left;exact h
   ·right;simp [h]
def endD (p : Int → Bool) : List ItemD → ItemD
 | [] => nullV.data
 | m :: r => bestD p m r
def FoldOk (kd fo : Int) (l : List ItemD) (y : ItemD) (n : Nat) : Prop :=
 if fo = 2 then n = 0 ∧ y = endD (fun i => decide (i < 0)) l
 else if fo = 3 then n = 0 ∧ y = endD (fun i => decide (0 < i)) l
 else if fo = 5 then n = 0 ∧ ((l = [] ∧ y = nullV.data) ∨ (l ≠ [] ∧ ∃ s f,y = (floatV f).data ∧ FRes (totO l) s ∧ FRes (floatBits .quo .f64 s (floatOfInt .f64 l.length)) f))
 else if kd = 4 then n = 0 ∧ ∃ f,y = (floatV f).data ∧ FRes (totO l) f
 else y = (wholeV l).data ∧ n = (wholeR l).2
def FoldEnd [Inhabited Thr] (kd fo : Int) (l : List ItemD) (w : World) (e : Ending) (w' : World) : Prop :=
 ∃ (y : VI) (n : Nat),e = .returned (.tuple #[y.val,.int .i64 n]) ∧ FoldOk kd fo l y.data n ∧ RdV w' y ∧ BlkV (fun k => w.heap.size ≤ k) y ∧ Below w.heap.size w w'
theorem fok_least {kd : Int} {l : List ItemD} : FoldOk kd 2 l (endD (fun i => decide (i < 0)) l) 0:=by rw [FoldOk,if_pos rfl];exact ⟨rfl,rfl⟩
theorem fok_most {kd : Int} {l : List ItemD} : FoldOk kd 3 l (endD (fun i => decide (0 < i)) l) 0:=by rw [FoldOk,if_neg (by decide),if_pos rfl];exact ⟨rfl,rfl⟩
theorem fok_none {kd : Int} : FoldOk kd 5 [] nullV.data 0:=by rw [FoldOk,if_neg (by decide),if_neg (by decide),if_pos rfl];exact ⟨rfl,.inl ⟨rfl,rfl⟩⟩
theorem fok_mean {kd : Int} {l : List ItemD} {s f : Nat} (h0 : l ≠ []) (h1 : FRes (totO l) s) (h2 : FRes (floatBits .quo .f64 s (floatOfInt .f64 l.length)) f) : FoldOk kd 5 l (floatV f).data 0:=by rw [FoldOk,if_neg (by decide),if_neg (by decide),if_pos rfl];exact ⟨rfl,.inr ⟨h0,s,f,rfl,h1,h2⟩⟩
theorem fok_sumF {kd : Int} {l : List ItemD} {f : Nat} (hk : kd = 4) (h1 : FRes (totO l) f) : FoldOk kd 4 l (floatV f).data 0:=by rw [FoldOk,if_neg (by decide),if_neg (by decide),if_neg (by decide),if_pos hk];exact ⟨rfl,f,rfl,h1⟩
theorem fok_sumI {kd : Int} {l : List ItemD} (hk : ¬ kd = 4) : FoldOk kd 4 l (wholeV l).data (wholeR l).2:=by rw [FoldOk,if_neg (by decide),if_neg (by decide),if_neg (by decide),if_neg hk];exact ⟨rfl,rfl⟩
theorem best_end (p : Int → Bool) (l : List VI) (h0 : 0 < l.length) : (bestL p l[0] (l.drop 1)).data = endD p (VI.dataL l) ∧ bestL p l[0] (l.drop 1) ∈ l:=by
 cases l with
 | nil => simp at h0
 | cons y l =>
   refine ⟨by rw [VI.dataL,endD];exact best_data p y l,?_⟩
   rcases best_mem p y l with h | h
   ·simp only [List.getElem_cons_zero,List.drop_succ_cons,List.drop_zero];rw [h];simp
   ·simp only [List.getElem_cons_zero,List.drop_succ_cons,List.drop_zero];simp [h]
theorem wholeV_rd [Inhabited Thr] (w : World) (l : List ItemD) : RdV w (wholeV l) ∧ BlkV (fun _ => False) (wholeV l):=by
 rw [wholeV]
 split
 ·next h =>
  refine ⟨RdV.leaf w (by decide) ?_ (by decide),.leaf⟩
  rw [wholeR] at h ⊢
  split
  ·next h2 => exact h2
  ·next h2 => rw [if_neg h2] at h;simp at h
 ·exact ⟨RdV.leaf w (by decide) (by decide) (by decide),.leaf⟩
theorem boxes_tqi {w W : World} {c d e : Value} {a0 a1 a2 a3 a4 a5 a6 a7 a8 : Value} {cs : Array Value} (h : Below (w.heap.size + 3) (((w.alloc (.cells #[c,d,e] 27)).alloc (.cells #[a0,a1,a2,a3,a4,a5,a6,a7,a8] 33)).alloc (.cells cs 54)) W) :
 (W.cell? ⟨w.heap.size,0,none⟩ = some c ∧ W.cell? ⟨w.heap.size,1,none⟩ = some d ∧ W.cell? ⟨w.heap.size,2,none⟩ = some e) ∧
 (W.cell? ⟨w.heap.size + 1,0,none⟩ = some a0 ∧ W.cell? ⟨w.heap.size + 1,1,none⟩ = some a1 ∧ W.cell? ⟨w.heap.size + 1,2,none⟩ = some a2 ∧ W.cell? ⟨w.heap.size + 1,3,none⟩ = some a3 ∧ W.cell? ⟨w.heap.size + 1,4,none⟩ = some a4 ∧ W.cell? ⟨w.heap.size + 1,5,none⟩ = some a5 ∧ W.cell? ⟨w.heap.size + 1,6,none⟩ = some a6 ∧ W.cell? ⟨w.heap.size + 1,7,none⟩ = some a7 ∧ W.cell? ⟨w.heap.size + 1,8,none⟩ = some a8) ∧
   W.heap[w.heap.size + 2]? = some (.cells cs 54 (0,0)) ∧ w.heap.size + 2 < W.heap.size ∧ Below w.heap.size w W:=by
 have h2 : W.heap[w.heap.size + 2]? = some (.cells cs 54 (0,0)):=(h.block _ (by omega)).trans (by
  have:=heap_alloc_new ((w.alloc (.cells #[c,d,e] 27)).alloc (.cells #[a0,a1,a2,a3,a4,a5,a6,a7,a8] 33)) (.cells cs 54)
  simpa using this)
 have hb : Below (w.heap.size + 2) ((w.alloc (.cells #[c,d,e] 27)).alloc (.cells #[a0,a1,a2,a3,a4,a5,a6,a7,a8] 33)) W :=
  ((Below.refl _ _).alloc (by simp) _).trans (h.mono (by omega))
 obtain ⟨b1,b2,b3,b4⟩:=boxes_tq hb
 exact ⟨b1,b2,h2,(Array.getElem?_eq_some_iff.1 h2).1,b4⟩
end
section
open Go.RowKit
set_option maxHeartbeats 1000000
set_option maxRecDepth 100000
theorem fold_done [Inhabited Thr] {w W : World} (hB : Below w.heap.size w W) (y : VI) (hy : RdV W y) (hb : BlkV (fun k => w.heap.size + 3 ≤ k) y) (cs : Array Value) :
 RdV (W.setRow (w.heap.size + 2) cs) y ∧ BlkV (fun k => w.heap.size ≤ k) y ∧ Below w.heap.size w (W.setRow (w.heap.size + 2) cs) :=
 ⟨hy.kept (setRow_kept _ _ _) (hb.mono fun k hk e => by omega),hb.mono fun k hk => by omega,below_setRow hB (by omega) _⟩
theorem eqt {n : Nat} (h : n = 0) : ((n : Int) == 0) = true:=by rw [beq_iff_eq];omega
theorem eqf {n : Nat} (h : 0 < n) : ((n : Int) == 0) = false:=by rw [beq_eq_false_iff_ne];omega
set_option maxHeartbeats 4000000 in
theorem fold_c [Inhabited Thr] (A : Option Addr) (c : Nat) (t : TabD) (q : QryV) (Ak : Option Addr) (ck : Nat) (R : List VI) (a : Nat) (w : World) (hR : RdT w A c t) (hQ : RdQ w q) (hK : RdR w Ak ck R) (ha : findC t q.over = a) (hac : a < t.cols.length) (hra : ∀ x ∈ R,a < x.l.length)
 (hf : 2 ≤ q.fold ∧ q.fold ≤ 5) (hb : R.length * 64 ≤ 140737488355328) :
 Calls Tryz.prog 70 #[vT t A c,q.val,.slice Ak R.length ck] w (FoldEnd (kindAt t a) q.fold (itemsD a (R.map fun x => VI.dataL x.l)) w):=by
 have HR:=Ld hR
 have HK:=Ld hK
 have HA:=Ld ha
 have HRA:=Ld hra
 have HIL:=Ld (items_len a R)
 obtain ⟨IT,hIT⟩ : ∃ IT,itemsD a (R.map fun x => VI.dataL x.l) = IT:=⟨_,rfl⟩
 have HIT:=Ld hIT
 rw [HIT.out]
 obtain ⟨kd,hkd⟩ : ∃ kd,kindAt t a = kd:=⟨_,rfl⟩
 have HKD:=Ld hkd
 rw [HKD.out]
 rcases t with ⟨tn,cols,keys⟩
 rcases q with ⟨qt,fr,tt,wh,qc,qd,ql,qf,qo,AF,cF,AT,cT,AW,cW,AC,cC⟩
 simp only [QryV.val,QryV.cells] at hf hac HA ⊢
 obtain ⟨W0,hW0⟩ : ∃ W0,((w.alloc (.cells #[.string tn,.slice A cols.length c,.int .i64 keys] 27)).alloc (.cells #[.string qt,.slice AF fr.length cF,.slice AT tt.length cT,.slice AW wh.length cW,.slice AC qc.length cC,.bool qd,.int .i64 ql,.int .u8 qf,.string qo] 33)).alloc (.cells (c6 0 false 0 0 ⟨#[]⟩ none 0 0) 54) = W0:=⟨_,rfl⟩
 have HW0:=Ld hW0
 have HBX:=Ld (fun W (h : Below (w.heap.size + 3) W0 W) => boxes_tqi (hW0 ▸ h))
 have HS0:=Ld (show W0.heap.size = w.heap.size + 3 by rw [← hW0];simp)
 have HWB:=Ld (show Below w.heap.size w W0 by rw [← hW0];exact (two_below w _ _).alloc (by simp;omega) _)
 clear hR hQ hK ha hra hW0 hIT hkd
 go_enter Tryz.func70,Tryz.ntmps70
 go_wp2_with (go_at_call 59;go_must (rw [HW0.out];refine (column_c A c ⟨tn,cols,keys⟩ qo _ (HR.out.below HWB.out)).mono ?_;rw [HA.out];rintro e w1 ⟨rfl,hb1⟩;have HB1:=Ld (show Below (w.heap.size + 3) W0 w1 by have:=hb1;rw [HS0.out] at this;exact this);clear hb1))
 go_loopw [19,9] (fun i v wr => ∃ (k : Nat) (ys : List VI),k ≤ R.length ∧ i = .int .i64 k ∧ Hid (ys = itemsV a (R.take k)) ∧ Hid (OwnI wr (w.heap.size + 3) v ys) ∧ Hid (Below (w.heap.size + 3) W0 wr)) (fun i _ _ => R.length - (intOf i).toNat)
 case atStart => exact ⟨0,[],Nat.zero_le _,rfl,Ld (by simp [itemsV]),Ld (OwnI.nil _ _),HB1⟩
 case round =>
  obtain ⟨k,ys,hk,rfl,hys,hO,hB⟩:=hrel
  obtain ⟨⟨q0,q1,q2⟩,⟨a0,a1,a2,a3,a4,a5,a6,a7,a8⟩,hrow,q3,q4⟩:=HBX.out _ hB.out
  have HROW:=Ld hrow
  have HW:=Ld q4
  clear q4 hrow
  have q5 : w.heap.size < wr.heap.size:=by omega
  have q6 : w.heap.size + 1 < wr.heap.size:=by omega
  by_cases hlt : k < R.length
  ·have HKr:=Ld (HK.out.below HW.out)
   obtain ⟨rb,ro,rfl⟩ : ∃ rb ro,Ak = some ⟨rb,ro,none⟩:=by obtain ⟨b,o,e,_⟩:=HKr.out.rd.2 (by omega);exact ⟨b,o,e⟩
   have r0:=row_at HKr.out.rd hlt
   have HXW:=Ld (HK.out.hx _ (List.getElem_mem hlt))
   have HTK0:=Ld (fun x hx ha y hy => items_take a R k hlt (x:=x) hx ha (y:=y) hy)
   obtain ⟨x,hx⟩ : ∃ x,R[k] = x:=⟨_,rfl⟩
   have hal : a < x.l.length:=HRA.out x (hx ▸ List.getElem_mem hlt)
   have HTK:=Ld (HTK0.out x hx hal)
   simp only [hx] at r0 HXW
   clear hx HTK0
   rcases x with ⟨xk,xb,xn,xf,xt,xA,xc,xl⟩
   simp only [VI.A,VI.c,VI.l] at r0 hal HTK
   have HXI:=Ld (show RdI w xA xc xl from HXW.out.list)
   obtain ⟨ab,ao,rfl⟩ : ∃ ab ao,xA = some ⟨ab,ao,none⟩:=by obtain ⟨b,o,e,_⟩:=HXI.out.rd.2 (by omega);exact ⟨b,o,e⟩
   obtain ⟨p0,p1,p2,p3,p4,p5⟩:=item_at (HXI.out.below HW.out).rd hal
   have HY:=Ld (HXI.out.hx _ (List.getElem_mem hal))
   obtain ⟨y,hy⟩ : ∃ y,xl[a] = y:=⟨_,rfl⟩
   have HTY:=Ld (HTK.out y hy)
   simp only [hy] at p0 p1 p2 p3 p4 p5 HY
   clear hy HTK
   rcases y with ⟨yk,yb,yn,yf,yt,yA,yc,yl⟩
   simp only [VI.k,VI.b,VI.n,VI.f,VI.t,VI.A,VI.c,VI.l] at p0 p1 p2 p3 p4 p5 HTY
   have HYL:=Ld (show ys.length ≤ k by rw [hys.out];exact Nat.le_trans (items_len _ _) (by rw [List.length_take];omega))
   clear q0 q1 q2 a0 a1 a2 a3 a4 a5 a6 a7 a8
   by_cases hn : yk = 1
   ·have e1 : (yk != 1) = false:=by simp [hn]
    rw [keepY_null (y:=VI.mk yk yb yn yf yt yA yc yl) hn] at HTY
    clear hn
    go_wp2
    exact ⟨⟨k + 1,ys,by omega,by go_num,Ld (by rw [HTY.out,List.append_nil];exact hys.out),hO,hB⟩,by simp [intOf];omega⟩
   ·have e1 : (yk != 1) = true:=by simp [hn]
    rw [keepY_some (y:=VI.mk yk yb yn yf yt yA yc yl) hn] at HTY
    clear hn
    go_wp2_with (at_builtin;go_must (have HO5:=Ld (hO.out.below ((Below.refl _ _).alloc (Nat.le_refl _) (.cells (c6 yk yb yn yf yt yA yl.length yc) 54)));refine wpList_items (B:=w.heap.size + 3) (l:=ys) (ys:=[VI.mk yk yb yn yf yt yA yc yl]) rfl (.tmp 29) (.tmp 34) rfl HO5.out rfl rfl (rd_items wr (c6 yk yb yn yf yt yA yl.length yc) [VI.mk yk yb yn yf yt yA yc yl] rfl (g:=wr.heap.size) rfl rfl) rfl (by intro y hy;obtain rfl : y = (VI.mk yk yb yn yf yt yA yc yl):=(by simpa using hy);exact (HY.out.grow HW.out).grow ((Below.refl _ _).alloc (Nat.le_refl _) _)) (by intro y hy;obtain rfl : y = (VI.mk yk yb yn yf yt yA yc yl):=(by simpa using hy);exact HY.out.blk.mono fun j hj e => by have:=(hO.out.own.lt j e).1;omega) (by have:=HYL.out;omega) (Nat.le_trans (show w.heap.size + 3 ≤ wr.heap.size from q3) (by simp)) ?_;intro v2 w3 hO2 hK2 _;have HO2:=Ld hO2;have HK2:=Ld (hK2.belowOwn (HO5.out.own) (Nat.le_trans (show w.heap.size + 3 ≤ wr.heap.size from q3) (by simp)));clear hO2 hK2))
    exact ⟨⟨k + 1,_,by omega,by go_num,Ld (by rw [HTY.out,← hys.out]),HO2,Ld ((hB.out.alloc (by omega) _).trans HK2.out)⟩,by simp [intOf];omega⟩
  ·have HYS:=Ld (show ys = itemsV a R by rw [hys.out,List.take_of_length_le (by omega)])
   have HDL:=Ld (show VI.dataL ys = IT by rw [HYS.out,items_data];exact HIT.out)
   have hyb : ys.length * 64 ≤ 140737488355328:=by have:=HIL.out;rw [HYS.out];omega
   obtain ⟨A',c',hv,hRI⟩:=hO.out.rdi hyb
   subst hv
   have HRI:=Ld (hRI.below ((Below.refl wr.heap.size wr).alloc (Nat.le_refl _) (.cells (c6 1 false 0 0 ⟨#[]⟩ none 0 0) 54)))
   have HWA:=Ld (HW.out.alloc HW.out.size (.cells (c6 1 false 0 0 ⟨#[]⟩ none 0 0) 54))
   have HRW:=Ld (row_keep' HROW.out ((Below.refl wr.heap.size wr).alloc (Nat.le_refl _) (.cells (c6 1 false 0 0 ⟨#[]⟩ none 0 0) 54)))
   have HSW:=Ld (show w.heap.size + 3 ≤ (wr.alloc (.cells (c6 1 false 0 0 ⟨#[]⟩ none 0 0) 54)).heap.size by simp;omega)
   have HRR:=Ld HR.out
   clear hRI hys hO HYS
   have hq : qf = 2 ∨ qf = 3 ∨ qf = 5 ∨ qf = 4:=by omega
   have HDE:=Ld (fun (h : ys.length = 0) => show IT = [] by rw [← HDL.out,List.eq_nil_of_length_eq_zero h];simp [VI.dataL])
   have HDN:=Ld (fun (h : 0 < ys.length) => show IT ≠ [] by rw [← HDL.out];intro e;have:=congrArg List.length e;rw [dataL_eq,List.length_map] at this;simp at this;rw [this] at h;simp at h)
   rcases hq with rfl | rfl | rfl | rfl
   ·by_cases he : ys.length = 0
    ·have HFO:=Ld (show FoldOk kd 2 IT nullV.data 0 by rw [HDE.out he];exact fok_least (l:=[]))
     have e1:=eqt he
     clear he
     go_wp2_with (refine wpList_store_row rfl 54 (.tmp 6) (.tmp 46) rfl (w.heap.size + 2) (c6 1 false 0 0 ⟨#[]⟩ none 0 0) rfl rfl 54 _ HRW.out (by kernel_rfl) rfl (one6 _ _ _ _ _ _ _ _) ?_)
     refine bodyPost_ret (results_ct rfl _ _ (w.heap.size + 2) 54 _ (0,0) _ rfl (setRow_block _ _ _ _ _ _ HRW.out) Tryz.underlying54 rfl (by kernel_rfl)) rfl ⟨nullV,0,rfl,HFO.out,fold_done HWA.out nullV (RdV.leaf _ (by decide) (by decide) (by decide)) .leaf _⟩
    ·have hpos : 0 < ys.length:=by omega
     have HBE:=Ld (best_end (fun i => decide (i < 0)) ys hpos)
     obtain ⟨m,hm⟩ : ∃ m,bestL (fun i => decide (i < 0)) (ys[0]'hpos) (ys.drop 1) = m:=⟨_,rfl⟩
     have HM:=Ld hm
     have HRM:=Ld (HRI.out.hx m (by rw [← HM.out];exact HBE.out.2))
     have HFO:=Ld (show FoldOk kd 2 IT m.data 0 by rw [← HDL.out,← HM.out,HBE.out.1];exact fok_least)
     have e1:=eqf hpos
     clear he
     clear hm HBE
     go_wp2_with (first
      | (go_at_call 102;go_must (refine (min_c A' c' ys _ HRI.out hpos).mono ?_;rw [HM.out];rintro e w2 ⟨rfl,hb⟩;have HB2:=Ld hb;have HRW2:=Ld (row_keep' HRW.out hb);clear hb q0 q1 q2 a0 a1 a2 a3 a4 a5 a6 a7 a8))
      | (go_at_call 71;go_must (refine (twin_c _ m _ (Nat.le_refl _) (HRM.out.grow HB2.out)).mono ?_;rintro e w3 ⟨Y,rfl,hd,hr,hb,hB3⟩;have HB3:=Ld hB3;have HD:=Ld hd;have HR3:=Ld hr;have HBK:=Ld (hb.mono (Q:=fun j => w.heap.size + 3 ≤ j) (fun j hj => Nat.le_trans (Nat.le_trans HSW.out HB2.out.size) hj));have HRW3:=Ld (row_keep' HRW2.out hB3);rcases Y with ⟨yk,yb,yn,yf,yt,yA,yc,yl⟩;simp only [VI.val,VI.k,VI.b,VI.n,VI.f,VI.t,VI.A,VI.c,VI.l];clear hd hr hb hB3))
      | (refine wpList_store_row rfl 54 (.tmp 6) (.tmp 52) rfl (w.heap.size + 2) (c6 yk yb yn yf yt yA yl.length yc) rfl rfl 54 _ HRW3.out (by kernel_rfl) rfl (one6 _ _ _ _ _ _ _ _) ?_))
     have HBW:=Ld ((HWA.out.trans (HB2.out.mono HWA.out.size)).trans (HB3.out.mono (Nat.le_trans HWA.out.size HB2.out.size)))
     refine bodyPost_ret (results_ct rfl _ _ (w.heap.size + 2) 54 _ (0,0) _ rfl (setRow_block _ _ _ _ _ _ HRW3.out) Tryz.underlying54 rfl (by kernel_rfl)) rfl ⟨(VI.mk yk yb yn yf yt yA yc yl),0,rfl,(by rw [HD.out];exact HFO.out),fold_done HBW.out (VI.mk yk yb yn yf yt yA yc yl) HR3.out HBK.out _⟩
   ·by_cases he : ys.length = 0
    ·have HFO:=Ld (show FoldOk kd 3 IT nullV.data 0 by rw [HDE.out he];exact fok_most (l:=[]))
     have e1:=eqt he
     clear he
     go_wp2_with (refine wpList_store_row rfl 54 (.tmp 6) (.tmp 46) rfl (w.heap.size + 2) (c6 1 false 0 0 ⟨#[]⟩ none 0 0) rfl rfl 54 _ HRW.out (by kernel_rfl) rfl (one6 _ _ _ _ _ _ _ _) ?_)
     refine bodyPost_ret (results_ct rfl _ _ (w.heap.size + 2) 54 _ (0,0) _ rfl (setRow_block _ _ _ _ _ _ HRW.out) Tryz.underlying54 rfl (by kernel_rfl)) rfl ⟨nullV,0,rfl,HFO.out,fold_done HWA.out nullV (RdV.leaf _ (by decide) (by decide) (by decide)) .leaf _⟩
    ·have hpos : 0 < ys.length:=by omega
     have HBE:=Ld (best_end (fun i => decide (0 < i)) ys hpos)
     obtain ⟨m,hm⟩ : ∃ m,bestL (fun i => decide (0 < i)) (ys[0]'hpos) (ys.drop 1) = m:=⟨_,rfl⟩
     have HM:=Ld hm
     have HRM:=Ld (HRI.out.hx m (by rw [← HM.out];exact HBE.out.2))
     have HFO:=Ld (show FoldOk kd 3 IT m.data 0 by rw [← HDL.out,← HM.out,HBE.out.1];exact fok_most)
     have e1:=eqf hpos
     clear he
     clear hm HBE
     go_wp2_with (first
      | (go_at_call 103;go_must (refine (max_c A' c' ys _ HRI.out hpos).mono ?_;rw [HM.out];rintro e w2 ⟨rfl,hb⟩;have HB2:=Ld hb;have HRW2:=Ld (row_keep' HRW.out hb);clear hb q0 q1 q2 a0 a1 a2 a3 a4 a5 a6 a7 a8))
      | (go_at_call 71;go_must (refine (twin_c _ m _ (Nat.le_refl _) (HRM.out.grow HB2.out)).mono ?_;rintro e w3 ⟨Y,rfl,hd,hr,hb,hB3⟩;have HB3:=Ld hB3;have HD:=Ld hd;have HR3:=Ld hr;have HBK:=Ld (hb.mono (Q:=fun j => w.heap.size + 3 ≤ j) (fun j hj => Nat.le_trans (Nat.le_trans HSW.out HB2.out.size) hj));have HRW3:=Ld (row_keep' HRW2.out hB3);rcases Y with ⟨yk,yb,yn,yf,yt,yA,yc,yl⟩;simp only [VI.val,VI.k,VI.b,VI.n,VI.f,VI.t,VI.A,VI.c,VI.l];clear hd hr hb hB3))
      | (refine wpList_store_row rfl 54 (.tmp 6) (.tmp 55) rfl (w.heap.size + 2) (c6 yk yb yn yf yt yA yl.length yc) rfl rfl 54 _ HRW3.out (by kernel_rfl) rfl (one6 _ _ _ _ _ _ _ _) ?_))
     have HBW:=Ld ((HWA.out.trans (HB2.out.mono HWA.out.size)).trans (HB3.out.mono (Nat.le_trans HWA.out.size HB2.out.size)))
     refine bodyPost_ret (results_ct rfl _ _ (w.heap.size + 2) 54 _ (0,0) _ rfl (setRow_block _ _ _ _ _ _ HRW3.out) Tryz.underlying54 rfl (by kernel_rfl)) rfl ⟨(VI.mk yk yb yn yf yt yA yc yl),0,rfl,(by rw [HD.out];exact HFO.out),fold_done HBW.out (VI.mk yk yb yn yf yt yA yc yl) HR3.out HBK.out _⟩
   ·by_cases he : ys.length = 0
    ·have HFO:=Ld (show FoldOk kd 5 IT nullV.data 0 by rw [HDE.out he];exact fok_none)
     have e1:=eqt he
     clear he
     go_wp2_with (refine wpList_store_row rfl 54 (.tmp 6) (.tmp 61) rfl (w.heap.size + 2) (c6 1 false 0 0 ⟨#[]⟩ none 0 0) rfl rfl 54 _ HRW.out (by kernel_rfl) rfl (one6 _ _ _ _ _ _ _ _) ?_)
     refine bodyPost_ret (results_ct rfl _ _ (w.heap.size + 2) 54 _ (0,0) _ rfl (setRow_block _ _ _ _ _ _ HRW.out) Tryz.underlying54 rfl (by kernel_rfl)) rfl ⟨nullV,0,rfl,HFO.out,fold_done HWA.out nullV (RdV.leaf _ (by decide) (by decide) (by decide)) .leaf _⟩
    ·have hpos : 0 < ys.length:=by omega
     have HN0:=Ld (HDN.out hpos)
     have HLN:=Ld (show IT.length = ys.length by rw [← HDL.out,dataL_eq,List.length_map])
     have e1:=eqf hpos
     clear he
     go_wp2_with (first
      | (go_at_call 104;go_must (refine (total_c A' c' ys _ HRI.out).mono ?_;rintro e w2 ⟨r,rfl,hr,hb⟩;have HB2:=Ld hb;have HRW2:=Ld (row_keep' HRW.out hb);have HT:=Ld hr;clear hb hr q0 q1 q2 a0 a1 a2 a3 a4 a5 a6 a7 a8))
      | (refine wpList_float rfl .quo (.inr rfl) _ _ (.tmp 63) (.tmp 66) rfl rfl rfl ?_;intro f w3 hf hb;have HF3:=Ld hf;have HB3:=Ld hb;have HRW3:=Ld (row_keep' HRW2.out hb);clear hf hb)
      | (refine wpList_store_row rfl 54 (.tmp 6) (.tmp 68) rfl (w.heap.size + 2) (c6 4 false 0 f ⟨#[]⟩ none 0 0) rfl rfl 54 _ HRW3.out (by kernel_rfl) rfl (one6 _ _ _ _ _ _ _ _) ?_))
     have HBW:=Ld ((HWA.out.trans (HB2.out.mono HWA.out.size)).trans (HB3.out.mono (Nat.le_trans HWA.out.size HB2.out.size)))
     refine bodyPost_ret (results_ct rfl _ _ (w.heap.size + 2) 54 _ (0,0) _ rfl (setRow_block _ _ _ _ _ _ HRW3.out) Tryz.underlying54 rfl (by kernel_rfl)) rfl ⟨(floatV f),0,rfl,(fok_mean HN0.out (by rw [← HDL.out];exact HT.out) (by rw [HLN.out];exact HF3.out)),fold_done HBW.out (floatV f) (RdV.leaf _ (by decide) (by decide) HF3.out.lt) .leaf _⟩
   ·have HCR:=Ld (show Rd wr 3 A cols.length (ccells cols) from (HRR.out.below HW.out).rd)
    obtain ⟨tb,te,rfl⟩ : ∃ tb te,A = some ⟨tb,te,none⟩:=by obtain ⟨b,o,e,_⟩:=HCR.out.2 (by omega);exact ⟨b,o,e⟩
    obtain ⟨c0,c1,c2⟩:=col_at HCR.out hac
    have htb : tb < wr.heap.size:=World.block_lt_of_cell? _ _ c0
    have HKE:=Ld (show kd = cols[a].kind by rw [← HKD.out,kindAt,Int.toNat_natCast];simp only;rw [List.getElem?_eq_getElem hac])
    obtain ⟨x,hx⟩ : ∃ x,cols[a] = x:=⟨_,rfl⟩
    rw [hx] at c0 c1 c2 HKE
    clear hx
    by_cases h4 : x.kind = 4
    ·have e1 : (x.kind == 4) = true:=by simp [h4]
     have HK4:=Ld (show kd = 4 by rw [HKE.out];exact h4)
     clear h4
     go_wp2_with (first
      | (go_at_call 104;go_must (refine (total_c A' c' ys _ HRI.out).mono ?_;rintro e w2 ⟨r,rfl,hr,hb⟩;clear c0 c1 c2;have HB2:=Ld hb;have HRW2:=Ld (row_keep' HRW.out hb);have HT:=Ld hr;clear hb hr q0 q1 q2 a0 a1 a2 a3 a4 a5 a6 a7 a8))
      | (refine wpList_store_row rfl 54 (.tmp 6) (.tmp 78) rfl (w.heap.size + 2) (c6 4 false 0 r ⟨#[]⟩ none 0 0) rfl rfl 54 _ HRW2.out (by kernel_rfl) rfl (one6 _ _ _ _ _ _ _ _) ?_))
     have HBW:=Ld (HWA.out.trans (HB2.out.mono HWA.out.size))
     refine bodyPost_ret (results_ct rfl _ _ (w.heap.size + 2) 54 _ (0,0) _ rfl (setRow_block _ _ _ _ _ _ HRW2.out) Tryz.underlying54 rfl (by kernel_rfl)) rfl ⟨(floatV r),0,rfl,(fok_sumF HK4.out (by rw [← HDL.out];exact HT.out)),fold_done HBW.out (floatV r) (RdV.leaf _ (by decide) (by decide) HT.out.lt) .leaf _⟩
    ·have e1 : (x.kind == 4) = false:=by simp [h4]
     have HK4:=Ld (show ¬ kd = 4 by rw [HKE.out];exact h4)
     have HWV:=Ld (fun w => wholeV_rd w (VI.dataL ys))
     have HFO:=Ld (show FoldOk kd 4 IT (wholeV (VI.dataL ys)).data (wholeR (VI.dataL ys)).2 by rw [HDL.out];exact fok_sumI HK4.out)
     obtain ⟨Y,hY⟩ : ∃ Y,wholeV (VI.dataL ys) = Y:=⟨_,rfl⟩
     have HY:=Ld hY
     obtain ⟨en,hen⟩ : ∃ en,(wholeR (VI.dataL ys)).2 = en:=⟨_,rfl⟩
     have HEN:=Ld hen
     rw [HY.out] at HWV
     rw [HY.out,HEN.out] at HFO
     clear h4 hY hen
     rcases Y with ⟨yk,yb,yn,yf,yt,yA,yc,yl⟩
     go_wp2_with (first
      | (go_at_call 105;go_must (refine (whole_items_c A' c' ys _ HRI.out).mono ?_;rw [HY.out,HEN.out];simp only [VI.val,VI.k,VI.b,VI.n,VI.f,VI.t,VI.A,VI.c,VI.l];rintro e w2 ⟨rfl,hb⟩;have HB2:=Ld hb;have HRW2:=Ld (row_keep' HRW.out hb);clear hb q0 q1 q2 a0 a1 a2 a3 a4 a5 a6 a7 a8 c0 c1 c2))
      | (refine wpList_store_row rfl 54 (.tmp 6) (.tmp 81) rfl (w.heap.size + 2) (c6 yk yb yn yf yt yA yl.length yc) rfl rfl 54 _ HRW2.out (by kernel_rfl) rfl (one6 _ _ _ _ _ _ _ _) ?_))
     have HBW:=Ld (HWA.out.trans (HB2.out.mono HWA.out.size))
     refine bodyPost_ret (results_ct rfl _ _ (w.heap.size + 2) 54 _ (0,0) _ rfl (setRow_block _ _ _ _ _ _ HRW2.out) Tryz.underlying54 rfl (by kernel_rfl)) rfl ⟨(VI.mk yk yb yn yf yt yA yc yl),en,rfl,HFO.out,fold_done HBW.out (VI.mk yk yb yn yf yt yA yc yl) (HWV.out _).1 ((HWV.out w).2.mono fun _ h => h.elim) _⟩
end
section
open Go.RowKit
set_option maxHeartbeats 1000000
set_option maxRecDepth 100000
abbrev intV (n : Int) : VI:=.mk 3 false n 0 ⟨#[]⟩ none 0 []
abbrev rowV (A : Option Addr) (c : Nat) (l : List VI) : VI:=.mk 0 false 0 0 ⟨#[]⟩ A c l
theorem RdV.row [Inhabited Thr] {w : World} {A : Option Addr} {c : Nat} {l : List VI} (h : RdI w A c l) (ho : ∀ b o,A = some ⟨b,o,none⟩ → OwnK w b o c) : RdV w (rowV A c l) :=
 .mk _ h.rd h.hc h.hb (by show (0 : Nat) ≤ 140737488355328;decide) ⟨Int.le_refl _,by show (0 : Int) ≤ 255;decide⟩ (by show (0 : Nat) < 18446744073709551616;decide) (by show -9223372036854775808 ≤ (0 : Int) ∧ (0 : Int) ≤ 9223372036854775807;decide) h.hx (fun _ b o e _ => ho b o e)
theorem BlkV.row {P : Nat → Prop} {A : Option Addr} {c : Nat} {l : List VI} (h0 : 0 < l.length → ∀ b o,A = some ⟨b,o,none⟩ → P b) (hx : ∀ y ∈ l,BlkV P y) : BlkV P (rowV A c l):=.mk _ h0 hx
def rowsD (R : List VI) : List (List ItemD):=R.map fun x => VI.dataL x.l
def projD (t : TabD) (cols : List ByteArray) (r : List ItemD) : List ItemD:=cols.map fun s => r.getD (findC t s).toNat nilV.data
def ComeOk (t : TabD) (q : QryV) (rows out : List (List ItemD)) (n : Nat) : Prop :=
 if q.fold = 1 then n = 0 ∧ out = [[(intV rows.length).data]]
 else if q.fold ≠ 0 then ∃ y m,FoldOk (kindAt t (findC t q.over)) q.fold (itemsD (findC t q.over).toNat rows) y m ∧ n = m ∧ (out = if m = 0 then [[y]] else [])
 else if q.cols = [] then n = 0 ∧ out = rows
 else n = 0 ∧ out = rows.map (projD t q.cols)
def RowsEnd [Inhabited Thr] (ok : List (List ItemD) → Nat → Prop) (B : Nat) (w : World) (e : Ending) (w' : World) : Prop :=
 ∃ (RO : List VI) (A : Option Addr) (c n : Nat),e = .returned (.tuple #[.slice A RO.length c,.int .i64 n]) ∧ ok (rowsD RO) n ∧ RdR w' A c RO ∧ OwnR w' B (.slice A RO.length c) RO ∧ (∀ x ∈ RO,BlkV (fun k => B ≤ k) x) ∧ Below w.heap.size w w'
structure QOk (t : TabD) (q : QryV) : Prop where
 fo : 0 ≤ q.fold ∧ q.fold ≤ 5
 ov : 2 ≤ q.fold → 0 ≤ findC t q.over ∧ findC t q.over < t.cols.length
 cs : ∀ s ∈ q.cols,0 ≤ findC t s ∧ findC t s < t.cols.length
 wc : ∀ c ∈ q.wh,0 ≤ findC t c.col ∧ findC t c.col < t.cols.length
theorem rd_one [Inhabited Thr] (w : World) (x : VI) (cs : Array Value) (hcs : cs = x.cells.toArray) (hx : RdV w x) {g : Nat} (hg : g = w.heap.size) :
 RdR ((w.alloc (.cells cs 54)).alloc (.cells #[.slice (some ⟨g,0,none⟩) 1 1] 28)) (some ⟨g + 1,0,none⟩) 1 [rowV (some ⟨g,0,none⟩) 1 [x]]:=by
 subst hg
 have hb:=(Below.refl (w.alloc (.cells cs 54)).heap.size (w.alloc (.cells cs 54))).alloc (Nat.le_refl _) (.cells #[.slice (some ⟨w.heap.size,0,none⟩) 1 1] 28)
 have hr:=rd_items w cs [x] (by rw [hcs];simp [icells]) (g:=w.heap.size) rfl (m:=1) rfl
 have hI : RdI (w.alloc (.cells cs 54)) (some ⟨w.heap.size,0,none⟩) 1 [x]:=⟨hr,Nat.le_refl _,by simp,fun y hy => by rw [List.mem_singleton.1 hy];exact hx.grow ((Below.refl _ _).alloc (Nat.le_refl _) _)⟩
 refine ⟨⟨rfl,fun _ => ⟨w.heap.size + 1,0,rfl,fun j u hu => ?_⟩⟩,Nat.le_refl _,by simp,fun y hy => by rw [List.mem_singleton.1 hy];exact RdV.row (hI.below hb) (fun b o e => by cases e;exact ⟨rfl,by decide,cs,(hb.block _ (by simp)).trans (heap_alloc_new w _),by rw [hcs];rfl⟩)⟩
 have hn:=heap_alloc_new (w.alloc (.cells cs 54)) (.cells #[.slice (some ⟨w.heap.size,0,none⟩) 1 1] 28)
 rw [show (w.alloc (.cells cs 54)).heap.size = w.heap.size + 1 by simp] at hn
 rw [Nat.zero_add,cell_of_row _ _ j _ _ _ hn]
 exact (show (#[Value.slice (some ⟨w.heap.size,0,none⟩) 1 1])[j]? = [rcell (rowV (some ⟨w.heap.size,0,none⟩) 1 [x])][j]? by simp;rfl).trans hu
theorem rd_one_own [Inhabited Thr] (w : World) (x : VI) (cs : Array Value) (hcs : cs = x.cells.toArray) (hx : RdV w x) {g : Nat} (hg : g = w.heap.size) {B : Nat} (hB : B ≤ w.heap.size) (hbx : BlkV (fun k => B ≤ k) x) :
 OwnR ((w.alloc (.cells cs 54)).alloc (.cells #[.slice (some ⟨g,0,none⟩) 1 1] 28)) B (.slice (some ⟨g + 1,0,none⟩) 1 1) [rowV (some ⟨g,0,none⟩) 1 [x]] ∧ ∀ y ∈ [rowV (some ⟨g,0,none⟩) 1 [x]],BlkV (fun k => B ≤ k) y:=by
 have h:=rd_one w x cs hcs hx hg
 subst hg
 have hn:=heap_alloc_new (w.alloc (.cells cs 54)) (.cells #[.slice (some ⟨w.heap.size,0,none⟩) 1 1] 28)
 rw [show (w.alloc (.cells cs 54)).heap.size = w.heap.size + 1 by simp] at hn
 refine ⟨⟨⟨rfl,.inr ⟨w.heap.size + 1,1,_,rfl,by omega,hn,Nat.le_refl _,by decide,rfl,rfl⟩⟩,h.hx,fun y hy => ?_⟩,fun y hy => ?_⟩
 ·rw [List.mem_singleton.1 hy]
  refine BlkV.row (fun _ b o e => by cases e;intro h;simp [Value.ownBlock] at h) (fun z hz => ?_)
  rw [List.mem_singleton.1 hz]
  exact hx.blk.mono fun k hk h => by simp [Value.ownBlock] at h;omega
 ·rw [List.mem_singleton.1 hy]
  exact BlkV.row (fun _ b o e => by cases e;exact hB) (fun z hz => by rw [List.mem_singleton.1 hz];exact hbx)
end
section
open Go.RowKit
set_option maxHeartbeats 1000000
set_option maxRecDepth 100000
theorem come_cols {t : TabD} {q : QryV} {rows out : List (List ItemD)} (h0 : q.fold = 0) (hc : q.cols ≠ []) (ho : out = rows.map (projD t q.cols)) : ComeOk t q rows out 0:=by
 rw [ComeOk,if_neg (by omega),if_neg (by omega),if_neg hc];exact ⟨rfl,ho⟩
theorem come_all {t : TabD} {q : QryV} {rows : List (List ItemD)} (h0 : q.fold = 0) (hc : q.cols = []) : ComeOk t q rows rows 0:=by
 rw [ComeOk,if_neg (by omega),if_neg (by omega),if_pos hc];exact ⟨rfl,rfl⟩
theorem come_count {t : TabD} {q : QryV} {rows : List (List ItemD)} (h1 : q.fold = 1) : ComeOk t q rows [[(intV rows.length).data]] 0:=by
 rw [ComeOk,if_pos h1];exact ⟨rfl,rfl⟩
theorem come_fold {t : TabD} {q : QryV} {rows : List (List ItemD)} {y : ItemD} {n : Nat} (h2 : 2 ≤ q.fold) (h : FoldOk (kindAt t (findC t q.over)) q.fold (itemsD (findC t q.over).toNat rows) y n) : ComeOk t q rows (if n = 0 then [[y]] else []) n:=by
 rw [ComeOk,if_neg (by omega),if_pos (by omega)];exact ⟨y,n,h,rfl,rfl⟩
theorem rowsD_len (R : List VI) : (rowsD R).length = R.length:=List.length_map ..
theorem proj_take (t : TabD) (cols : List ByteArray) (k : Nat) (h : k < cols.length) {s : ByteArray} (hs : cols[k] = s) (l : List VI) (a : Nat) (ha : findC t s = a) (hal : a < l.length) {y : VI} (hy : l[a] = y) : projD t (cols.take (k + 1)) (VI.dataL l) = projD t (cols.take k) (VI.dataL l) ++ [y.data]:=by
 have hl : a < (VI.dataL l).length:=by rw [dataL_eq,List.length_map];exact hal
 rw [List.take_succ_eq_append_getElem h,projD,projD,List.map_append,hs,List.map_singleton,ha,Int.toNat_natCast,List.getD_eq_getElem?_getD,List.getElem?_eq_getElem hl,data_at l a hal,hy];rfl
theorem rowsD_app (a b : List VI) : rowsD (a ++ b) = rowsD a ++ rowsD b:=List.map_append ..
theorem dataL_app (a b : List VI) : VI.dataL (a ++ b) = VI.dataL a ++ VI.dataL b:=by rw [dataL_eq,dataL_eq,dataL_eq,List.map_append]
theorem rd_row (w : World) (A : Option Addr) (c : Nat) (l : List VI) {g : Nat} (hg : g = w.heap.size) : Rd (w.alloc (.cells #[.slice A l.length c] 28)) 1 (some ⟨g,0,none⟩) 1 ([rowV A c l].map rcell):=by
 subst hg
 refine ⟨rfl,fun _ => ⟨w.heap.size,0,rfl,fun j u hu => ?_⟩⟩
 rw [Nat.zero_add,cell_of_row _ _ j _ _ _ (heap_alloc_new w _)]
 exact (show (#[Value.slice A l.length c])[j]? = ([rowV A c l].map rcell)[j]? by simp;rfl).trans hu
theorem rows_take (R : List VI) (k : Nat) (h : k < R.length) {x : VI} (hx : R[k] = x) : rowsD (R.take (k + 1)) = rowsD (R.take k) ++ [VI.dataL x.l]:=by
 rw [List.take_succ_eq_append_getElem h,rowsD,rowsD,List.map_append,hx];rfl
set_option maxHeartbeats 4000000 in
theorem come_c [Inhabited Thr] (A : Option Addr) (c : Nat) (t : TabD) (q : QryV) (Ak : Option Addr) (ck : Nat) (R : List VI) (w : World) (hR : RdT w A c t) (hQ : RdQ w q) (hK : RdR w Ak ck R) (ho : QOk t q) (hra : ∀ x ∈ R,x.l.length = t.cols.length)
 (hb : 2 ≤ q.fold → R.length * 64 ≤ 140737488355328) (hcb : q.cols.length * 64 ≤ 140737488355328) {B : Nat} (hBw : B ≤ w.heap.size) (hown : OwnR w B (.slice Ak R.length ck) R) (hblk : ∀ x ∈ R,BlkV (fun k => B ≤ k) x) :
 Calls Tryz.prog 39 #[vT t A c,q.val,.slice Ak R.length ck] w (RowsEnd (ComeOk t q (rowsD R)) B w):=by
 have HR:=Ld hR
 have HQ:=Ld hQ
 have HK:=Ld hK
 have HO:=Ld ho
 have HRA:=Ld hra
 have HBB:=Ld hBw
 have HOWN:=Ld hown
 have HBLK:=Ld hblk
 have hkb:=hK.hb
 obtain ⟨TD,hTD⟩ : ∃ TD,t = TD:=⟨_,rfl⟩
 obtain ⟨QD,hQD⟩ : ∃ QD,q = QD:=⟨_,rfl⟩
 have HTD:=Ld hTD
 have HQD:=Ld hQD
 rw [show ComeOk t q (rowsD R) = ComeOk TD QD (rowsD R) by rw [hTD,hQD]]
 obtain ⟨OK,hOK⟩ : ∃ OK,OK = ComeOk TD QD (rowsD R):=⟨_,rfl⟩
 have HOK:=Ld hOK
 rw [← HOK.out]
 rcases t with ⟨tn,cols,keys⟩
 rcases q with ⟨qt,fr,tt,wh,qc,qd,ql,qf,qo,AF,cF,AT,cT,AW,cW,AC,cC⟩
 have hfo:=ho.fo
 have hcc:=hQ.cc
 simp only [QryV.val,QryV.cells] at hfo hcb hb ⊢
 obtain ⟨W0,hW0⟩ : ∃ W0,((w.alloc (.cells #[.string tn,.slice A cols.length c,.int .i64 keys] 27)).alloc (.cells #[.string qt,.slice AF fr.length cF,.slice AT tt.length cT,.slice AW wh.length cW,.slice AC qc.length cC,.bool qd,.int .i64 ql,.int .u8 qf,.string qo] 33)) = W0:=⟨_,rfl⟩
 have HW0:=Ld hW0
 have HBX:=Ld (fun W (h : Below (w.heap.size + 2) W0 W) => boxes_tq (hW0 ▸ h))
 have HS0:=Ld (show W0.heap.size = w.heap.size + 2 by rw [← hW0];simp)
 have HWB:=Ld (show Below w.heap.size w W0 by rw [← hW0];exact two_below w _ _)
 have HF:=Ld (show qf = QD.fold by rw [← HQD.out])
 have HC:=Ld (show qc = QD.cols by rw [← HQD.out])
 clear hR hQ hK ho hra hW0 hTD hQD hOK hBw hown hblk
 by_cases h1 : qf = 1
 ·have HE:=Ld (come_count (t:=TD) (q:=QD) (rows:=rowsD R) (by rw [← HF.out];exact h1))
  have e1 : (qf == 1) = true:=by simp [h1]
  have HRO:=Ld (rd_one W0 (intV R.length) (c6 3 false R.length 0 ⟨#[]⟩ none 0 0) rfl (RdV.leaf W0 (by decide) ⟨by omega,by omega⟩ (by decide)) (g:=w.heap.size + 1 + 1) (by rw [HS0.out]))
  have HRO2:=Ld (rd_one_own W0 (intV R.length) (c6 3 false R.length 0 ⟨#[]⟩ none 0 0) rfl (RdV.leaf W0 (by decide) ⟨by omega,by omega⟩ (by decide)) (g:=w.heap.size + 1 + 1) (by rw [HS0.out]) (B:=B) (Nat.le_trans HBB.out HWB.out.size) .leaf)
  clear h1
  go_enter Tryz.func39,Tryz.ntmps39
  go_wp2
  go_ret2
  rw [HW0.out]
  exact ⟨[rowV (some ⟨w.heap.size + 1 + 1,0,none⟩) 1 [intV R.length]],_,1,0,rfl,by rw [HOK.out];have:=HE.out;rw [rowsD_len] at this;exact this,HRO.out,HRO2.out.1,HRO2.out.2,HWB.out.trans ((two_below W0 _ _).mono HWB.out.size)⟩
 by_cases h0 : qf = 0
 ·have e1 : (qf == 1) = false:=by simp [h0]
  have e2 : (qf != 0) = false:=by simp [h0]
  by_cases hc : qc.length = 0
  ·have HE:=Ld (come_all (t:=TD) (q:=QD) (rows:=rowsD R) (by rw [← HF.out];exact h0) (by rw [← HC.out];exact List.eq_nil_of_length_eq_zero hc))
   have e3 : ((qc.length : Int) == 0) = true:=by simp [hc]
   clear h0 h1 hc
   go_enter Tryz.func39,Tryz.ntmps39
   go_wp2
   go_ret2
   rw [HW0.out]
   exact ⟨R,Ak,ck,0,rfl,by rw [HOK.out];exact HE.out,HK.out.below HWB.out,HOWN.out.below HWB.out,HBLK.out,HWB.out⟩
  ·have HE:=Ld (fun out => come_cols (t:=TD) (q:=QD) (rows:=rowsD R) (out:=out) (by rw [← HF.out];exact h0) (by rw [← HC.out];intro e;exact hc (by rw [e];rfl)))
   have e3 : ((qc.length : Int) == 0) = false:=by simp [hc]
   clear h0 h1 hc
   go_enter Tryz.func39,Tryz.ntmps39
   go_wp2
   go_loopw [47,10] (fun i v wr => ∃ (k : Nat) (RO : List VI),k ≤ R.length ∧ i = .int .i64 k ∧ Hid (RO.length = k) ∧ Hid (rowsD RO = (rowsD (R.take k)).map (projD TD qc)) ∧ Hid (OwnR wr (w.heap.size + 2) v RO) ∧ Hid (Below (w.heap.size + 2) W0 wr) ∧ Hid (∀ x ∈ RO,BlkV (fun b => w.heap.size + 2 ≤ b) x)) (fun i _ _ => R.length - (intOf i).toNat)
   case atStart => exact ⟨0,[],Nat.zero_le _,rfl,Ld rfl,Ld (by simp [rowsD]),Ld (OwnR.nil _ _),Ld (by rw [HW0.out];exact Below.refl _ _),Ld (by simp)⟩
   case round =>
    obtain ⟨k,RO,hk,rfl,hlen,hro,hO,hB,hbr⟩:=hrel
    obtain ⟨⟨q0,q1,q2⟩,⟨a0,a1,a2,a3,a4,a5,a6,a7,a8⟩,q3,q4⟩:=HBX.out _ hB.out
    have HW:=Ld q4
    clear q4
    have q5 : w.heap.size < wr.heap.size:=by omega
    by_cases hlt : k < R.length
    ·have HKr:=Ld (HK.out.below HW.out)
     obtain ⟨rb,ro,rfl⟩ : ∃ rb ro,Ak = some ⟨rb,ro,none⟩:=by obtain ⟨b,o,e,_⟩:=HKr.out.rd.2 (by omega);exact ⟨b,o,e⟩
     have r0:=row_at HKr.out.rd hlt
     have HXW:=Ld (HK.out.hx _ (List.getElem_mem hlt))
     have HRL:=Ld (HRA.out _ (List.getElem_mem hlt))
     have HTK:=Ld (fun x (hx : R[k] = x) => rows_take R k hlt hx)
     obtain ⟨x,hx⟩ : ∃ x,R[k] = x:=⟨_,rfl⟩
     have HTX:=Ld (HTK.out x hx)
     simp only [hx] at r0 HXW HRL
     clear hx HTK
     rcases x with ⟨xk,xb,xn,xf,xt,xA,xc,xl⟩
     simp only [VI.A,VI.c,VI.l] at r0 HRL HTX
     have HXI:=Ld (show RdI w xA xc xl from HXW.out.list)
     go_wp2
     clear q0 q1 q2 a0 a1 a2 a3 a4 a5 a6 a7 a8 r0
     rename World => W1
     go_loopw [54,13] (fun j u wr => ∃ (m : Nat) (ys : List VI),m ≤ qc.length ∧ j = .int .i64 m ∧ Hid (ys.length = m) ∧ Hid (VI.dataL ys = projD TD (qc.take m) (VI.dataL xl)) ∧ Hid (OwnI wr W1.heap.size u ys) ∧ Hid (∀ y ∈ ys,BlkV (fun b => W1.heap.size ≤ b) y) ∧ Hid (Below W1.heap.size W1 wr)) (fun j _ _ => qc.length - (intOf j).toNat)
     case atStart => exact ⟨0,[],Nat.zero_le _,rfl,Ld rfl,Ld (by simp [VI.dataL,projD]),Ld (OwnI.nil _ _),Ld (by simp),Ld (Below.refl _ _)⟩
     case round =>
      obtain ⟨m,ys,hm,rfl,hyl,hyd,hOy,hby,hB2⟩:=hrel
      have HBW:=Ld (hB.out.trans (hB2.out.mono (show w.heap.size + 2 ≤ W1.heap.size from q3)))
      by_cases hlt2 : m < qc.length
      ·have HQr:=Ld (HQ.out.below (HW.out.trans (hB2.out.mono HW.out.size)))
       obtain ⟨cb,co,rfl⟩ : ∃ cb co,AC = some ⟨cb,co,none⟩:=by obtain ⟨b,o,e,_⟩:=HQr.out.cl.2 (show 0 < qc.length by omega);exact ⟨b,o,e⟩
       have s0:=str_at HQr.out.cl hlt2
       have HSC:=Ld (HO.out.cs _ (List.getElem_mem hlt2))
       have HPT:=Ld (fun s (hs : qc[m] = s) => proj_take TD qc m hlt2 hs xl)
       simp only at s0 HSC
       obtain ⟨s,hs⟩ : ∃ s,qc[m] = s:=⟨_,rfl⟩
       have HPS:=Ld (HPT.out s hs)
       simp only [hs] at s0 HSC
       clear hs HPT
       obtain ⟨f,hf⟩ : ∃ f : Nat,findC ⟨tn,cols,keys⟩ s = f:=⟨_,(Int.toNat_of_nonneg HSC.out.1).symm⟩
       have HFI:=Ld hf
       have hfl : f < xl.length:=by have h1:=HSC.out.2;rw [hf] at h1;have h2:=HRL.out;omega
       have HPF:=Ld (fun y (hy : xl[f] = y) => HPS.out f (by rw [← HTD.out];exact hf) hfl (y:=y) hy)
       clear hf HPS
       obtain ⟨ab,ao,rfl⟩ : ∃ ab ao,xA = some ⟨ab,ao,none⟩:=by obtain ⟨b,o,e,_⟩:=HXI.out.rd.2 (by omega);exact ⟨b,o,e⟩
       have HCE:=Ld (fun W (h : Below wr.heap.size wr W) => item_at ((HXI.out.below (HW.out.trans (hB2.out.mono HW.out.size))).below h).rd hfl)
       have HY:=Ld (HXI.out.hx _ (List.getElem_mem hfl))
       obtain ⟨y,hy⟩ : ∃ y,xl[f] = y:=⟨_,rfl⟩
       have HPY:=Ld (HPF.out y hy)
       simp only [hy] at HCE HY
       clear hy HPF
       rcases y with ⟨yk,yb,yn,yf,yt,yA,yc,yl⟩
       simp only [VI.k,VI.b,VI.n,VI.f,VI.t,VI.A,VI.c,VI.l] at HCE
       obtain ⟨⟨q0,q1,q2⟩,⟨a0,a1,a2,a3,a4,a5,a6,a7,a8⟩,q6,q4⟩:=HBX.out _ HBW.out
       have HWr:=Ld q4
       clear q4
       have q7 : w.heap.size < wr.heap.size:=by omega
       go_wp2_with (first
        | (go_at_call 59;go_must (refine (column_c A c ⟨tn,cols,keys⟩ s _ (HR.out.below HWr.out)).mono ?_;rw [HFI.out];rintro e w2 ⟨rfl,hb⟩;have HB3:=Ld hb;obtain ⟨p0,p1,p2,p3,p4,p5⟩:=HCE.out _ hb;clear hb q0 q1 q2 a0 a1 a2 a3 a4 a5 a6 a7 a8 s0))
        | (go_at_call 71;go_must (refine (twin_c _ (VI.mk yk yb yn yf yt yA yc yl) _ (Nat.le_refl _) (HY.out.grow (HWr.out.trans (HB3.out.mono HWr.out.size)))).mono ?_;rintro e w3 ⟨Y,rfl,hd,hr,hb,hB⟩;have HB4:=Ld (HB3.out.trans (hB.mono HB3.out.size));have HD:=Ld hd;have HR3:=Ld hr;have HBK:=Ld (hb.mono (Q:=fun j => W1.heap.size ≤ j) (fun j hj => Nat.le_trans (Nat.le_trans hB2.out.size HB3.out.size) hj));have HBO:=Ld (hb.mono (Q:=fun j => wr.heap.size ≤ j) (fun j hj => Nat.le_trans HB3.out.size hj));rcases Y with ⟨zk,zb,zn,zf,zt,zA,zc,zl⟩;simp only [VI.val,VI.k,VI.b,VI.n,VI.f,VI.t,VI.A,VI.c,VI.l];clear hd hr hb hB p0 p1 p2 p3 p4 p5))
        | (at_builtin;go_must (have HO5:=Ld ((hOy.out.below HB4.out).below ((Below.refl _ _).alloc (Nat.le_refl _) (.cells (c6 zk zb zn zf zt zA zl.length zc) 54)));refine wpList_items (B:=W1.heap.size) (l:=ys) (ys:=[VI.mk zk zb zn zf zt zA zc zl]) rfl (.tmp 58) (.tmp 66) rfl HO5.out rfl rfl (rd_items w3 (c6 zk zb zn zf zt zA zl.length zc) [VI.mk zk zb zn zf zt zA zc zl] rfl (g:=w3.heap.size) rfl rfl) rfl (by intro y hy;obtain rfl : y = (VI.mk zk zb zn zf zt zA zc zl):=(by simpa using hy);exact HR3.out.grow ((Below.refl _ _).alloc (Nat.le_refl _) _)) (by intro y hy;obtain rfl : y = (VI.mk zk zb zn zf zt zA zc zl):=(by simpa using hy);exact HBO.out.mono fun j hj e => by have:=(hOy.out.own.lt j e).2;omega) (by have:=hyl.out;omega) (Nat.le_trans hB2.out.size (Nat.le_trans HB4.out.size (by simp))) ?_;intro v2 w4 hO2 hK2 _;have HO2:=Ld hO2;have HK2:=Ld (hK2.belowOwn HO5.out.own (Nat.le_trans hB2.out.size (Nat.le_trans HB4.out.size (by simp))));clear hO2 hK2)))
       exact ⟨⟨m + 1,_,by omega,by go_num,Ld (by rw [List.length_append,hyl.out];rfl),Ld (by rw [dataL_app,hyd.out,HPY.out,← HD.out];simp [VI.dataL]),HO2,Ld (by
        intro y hy
        rcases List.mem_append.1 hy with hy | hy
        ·exact hby.out y hy
        ·rw [List.mem_singleton.1 hy];exact HBK.out),Ld ((hB2.out.trans ((HB4.out.alloc HB4.out.size _).mono hB2.out.size)).trans HK2.out)⟩,by simp [intOf];omega⟩
      ·have HTQ:=Ld (show qc.take m = qc from List.take_of_length_le (by omega))
       have HYL:=Ld (show ys.length * 64 ≤ 140737488355328 by rw [hyl.out];omega)
       obtain ⟨A',c',hv,hRI⟩:=hOy.out.rdi HYL.out
       subst hv
       have HRI:=Ld hRI
       have HOB:=Ld (own_block hOy.out.own)
       clear hRI
       go_wp2_with (at_builtin;go_must (have HO5:=Ld ((hO.out.below hB2.out).below ((Below.refl _ _).alloc (Nat.le_refl _) (.cells #[.slice A' ys.length c'] 28)));refine wpList_rows (B:=w.heap.size + 2) (R:=RO) (ys:=[rowV A' c' ys]) rfl (.tmp 69) (.tmp 71) rfl HO5.out rfl rfl (rd_row wr A' c' ys rfl) rfl (by intro y hy;obtain rfl : y = rowV A' c' ys:=(by simpa using hy);exact (RdV.row HRI.out (own_hw hOy.out.own)).grow ((Below.refl _ _).alloc (Nat.le_refl _) _)) (by intro y hy;obtain rfl : y = rowV A' c' ys:=(by simpa using hy);exact BlkV.row (fun _ b o e h => by have h1:=(HOB.out b o e).1;have h2:=(hO.out.own.lt b h).2;omega) (fun z hz => (hby.out z hz).mono fun j hj e => by have h2:=(hO.out.own.lt j e).2;omega)) (by have:=hlen.out;omega) (Nat.le_trans q3 (Nat.le_trans hB2.out.size (by simp))) ?_;intro v2 w4 hO2 hK2 _;have HO2:=Ld hO2;have HK2:=Ld (hK2.belowOwn HO5.out.own (Nat.le_trans q3 (Nat.le_trans hB2.out.size (by simp))));clear hO2 hK2))
       exact ⟨⟨k + 1,_,by omega,by go_num,Ld (by rw [List.length_append,hlen.out];rfl),Ld (by rw [rowsD_app,hro.out,HTX.out,List.map_append,show rowsD [rowV A' c' ys] = [VI.dataL ys] from rfl,hyd.out,HTQ.out];rfl),HO2,Ld ((HBW.out.alloc (Nat.le_trans q3 hB2.out.size) _).trans HK2.out),Ld (by
        intro x hx
        rcases List.mem_append.1 hx with hx | hx
        ·exact hbr.out x hx
        ·rw [List.mem_singleton.1 hx];exact BlkV.row (fun _ b o e => by have h1:=(HOB.out b o e).1;omega) (fun z hz => (hby.out z hz).mono fun j hj => by omega))⟩,by simp [intOf];omega⟩
    ·have HTA:=Ld (show R.take k = R from List.take_of_length_le (by omega))
     have HKL:=Ld (show RO.length * 24 ≤ 140737488355328 by rw [hlen.out];omega)
     obtain ⟨A',c',hv,hRR⟩:=hO.out.rdr HKL.out
     subst hv
     have HRR:=Ld hRR
     clear hRR
     go_wp2
     go_ret2
     exact ⟨RO,A',c',0,rfl,by rw [HOK.out];exact HE.out _ (by rw [hro.out,HTA.out,HC.out]),HRR.out,⟨ownsRow_mono' hO.out.own (by have:=HBB.out;omega),hO.out.rd,hO.out.ne⟩,fun x hx => (hbr.out x hx).mono fun j hj => by have:=HBB.out;omega,HW.out⟩
 ·have HO2:=Ld (HO.out.ov (show 2 ≤ qf by omega))
  have h2 : 2 ≤ qf:=by omega
  obtain ⟨a,ha⟩ : ∃ a : Nat,findC ⟨tn,cols,keys⟩ qo = a:=⟨_,(Int.toNat_of_nonneg HO2.out.1).symm⟩
  have HA:=Ld ha
  have HAL:=Ld (show a < cols.length by have:=HO2.out.2;have h:=HA.out;simp only at this;omega)
  have HFC:=Ld (fun y n => come_fold (t:=TD) (q:=QD) (rows:=rowsD R) (y:=y) (n:=n) (by rw [← HF.out];exact h2))
  have HKA:=Ld (show findC TD QD.over = a by rw [← HTD.out,← HQD.out];exact HA.out)
  simp only [HKA.out,Int.toNat_natCast] at HFC
  have e1 : (qf == 1) = false:=by simp [h1]
  have e2 : (qf != 0) = true:=by simp [h0]
  have HRB:=Ld (hb h2)
  have HFR:=Ld (show 2 ≤ qf ∧ qf ≤ 5 from ⟨h2,hfo.2⟩)
  clear h0 h1 ha h2
  go_enter Tryz.func39,Tryz.ntmps39
  go_upto_region 5 with (first
   | (go_at_call 70;go_must (rw [HW0.out];refine (fold_c A c ⟨tn,cols,keys⟩ ⟨qt,fr,tt,wh,qc,qd,ql,qf,qo,AF,cF,AT,cT,AW,cW,AC,cC⟩ Ak ck R a W0 (HR.out.below HWB.out) (HQ.out.below HWB.out) (HK.out.below HWB.out) HA.out HAL.out (fun x hx => by rw [HRA.out x hx];exact HAL.out) HFR.out HRB.out).mono ?_;rintro e w1 ⟨Y,n,rfl,hfk,hr,hbk,hb1⟩;have HFK:=Ld hfk;have HRY:=Ld hr;have HBKY:=Ld (hbk.mono (Q:=fun j => B ≤ j) (fun j hj => Nat.le_trans HBB.out (Nat.le_trans HWB.out.size hj)));have HB1:=Ld (HWB.out.trans (hb1.mono HWB.out.size));rcases Y with ⟨yk,yb,yn,yf,yt,yA,yc,yl⟩;simp only [VI.val,VI.k,VI.b,VI.n,VI.f,VI.t,VI.A,VI.c,VI.l];clear hfk hr hbk hb1)))
  have HFK2:=Ld (HFC.out _ _ (show FoldOk (kindAt TD a) QD.fold (itemsD a (rowsD R)) _ n by rw [← HTD.out,← HQD.out];exact HFK.out))
  have HBA:=Ld (HB1.out.alloc HB1.out.size (.cells (c6 yk yb yn yf yt yA yl.length yc) 54))
  by_cases hn : n = 0
  ·have z0:=zz hn
   have HFK3:=Ld (show ComeOk TD QD (rowsD R) [[(VI.mk yk yb yn yf yt yA yc yl).data]] 0 by have:=HFK2.out;rw [if_pos hn,hn] at this;exact this)
   have HRO:=Ld (rd_one (w1.alloc (.cells (c6 yk yb yn yf yt yA yl.length yc) 54)) (VI.mk yk yb yn yf yt yA yc yl) (c6 yk yb yn yf yt yA yl.length yc) rfl (HRY.out.grow ((Below.refl _ _).alloc (Nat.le_refl _) _)) (g:=w1.heap.size + 1) (by simp))
   have HRO2:=Ld (rd_one_own (w1.alloc (.cells (c6 yk yb yn yf yt yA yl.length yc) 54)) (VI.mk yk yb yn yf yt yA yc yl) (c6 yk yb yn yf yt yA yl.length yc) rfl (HRY.out.grow ((Below.refl _ _).alloc (Nat.le_refl _) _)) (g:=w1.heap.size + 1) (by simp) (B:=B) (Nat.le_trans HBB.out HBA.out.size) HBKY.out)
   clear hn
   go_wp2
   go_ret2
   exact ⟨[rowV (some ⟨w1.heap.size + 1,0,none⟩) 1 [VI.mk yk yb yn yf yt yA yc yl]],_,1,0,rfl,by rw [HOK.out];exact HFK3.out,HRO.out,HRO2.out.1,HRO2.out.2,HBA.out.trans ((two_below _ _ _).mono HBA.out.size)⟩
  ·have z0:=nz hn
   have HFK3:=Ld (show ComeOk TD QD (rowsD R) [] n by have:=HFK2.out;rw [if_neg hn] at this;exact this)
   clear hn
   go_wp2
   go_ret2
   exact ⟨[],none,0,n,rfl,by rw [HOK.out];exact HFK3.out,RdR.nil _ _,OwnR.nil _ _,by simp,HBA.out⟩
end
section
open Go.RowKit
set_option maxHeartbeats 1000000
set_option maxRecDepth 100000
def pcell (p : ByteArray × ByteArray) : List Value:=[.string p.1,.string p.2]
def pcells (P : List (ByteArray × ByteArray)) : List Value:=P.flatMap pcell
structure RdP (w : World) (A : Option Addr) (c : Nat) (P : List (ByteArray × ByteArray)) : Prop where
 rd : Rd w 2 A P.length (pcells P)
 hc : P.length ≤ c
 hb : P.length * 32 ≤ 140737488355328
 hx : ∀ p ∈ P,p.1.size ≤ 140737488355328 ∧ p.2.size ≤ 140737488355328
theorem RdP.below {w w' : World} {A : Option Addr} {c : Nat} {P : List (ByteArray × ByteArray)} (h : RdP w A c P) (hb : Below w.heap.size w w') : RdP w' A c P:=⟨h.rd.below hb,h.hc,h.hb,h.hx⟩
theorem pair_at {w : World} {b o : Nat} {P : List (ByteArray × ByteArray)} (h : Rd w 2 (some ⟨b,o,none⟩) P.length (pcells P)) {k : Nat} (hk : k < P.length) :
 w.cell? ⟨b,o + k * 2,none⟩ = some (.string P[k].1) ∧ w.cell? ⟨b,o + k * 2 + 1,none⟩ = some (.string P[k].2):=by
 obtain ⟨b',o',e,hc⟩:=h.2 (by omega)
 cases e
 have hp:=flat_get pcell 2 P (fun _ _ => rfl) k hk
 refine ⟨?_,?_⟩
 ·exact hc _ _ (by rw [show k * 2 = k * 2 + 0 from rfl];exact (hp 0 (by decide)).trans rfl)
 ·rw [Nat.add_assoc];exact hc _ _ ((hp 1 (by decide)).trans rfl)
abbrev ltB (a b : List UInt8) : Bool:=Op.bytesLess a b
def rowsA (pg wd : Int) (t : TabD) (lo hi : List UInt8) : List (List ItemD) → List (ByteArray × ByteArray) → Option (List (List ItemD)) × Nat
 | acc,[] => (some acc,0)
 | acc,p :: l => if ltB p.1.data.toList lo = true ∨ ltB p.1.data.toList hi = false then rowsA pg wd t lo hi acc l else
   match rowR pg wd t p.1.data.toList p.2.data.toList with
   | (none,n) => (none,n)
   | (some r,_) => rowsA pg wd t lo hi (acc ++ [r]) l
section
variable {pg wd : Int} {t : TabD} {lo hi : List UInt8} {acc : List (List ItemD)} {P : List (ByteArray × ByteArray)} {k : Nat} {p : ByteArray × ByteArray}
theorem rowsA_skip (h : k < P.length) (hp : P[k] = p) (hs : ltB p.1.data.toList lo = true ∨ ltB p.1.data.toList hi = false) : rowsA pg wd t lo hi acc (P.drop k) = rowsA pg wd t lo hi acc (P.drop (k + 1)):=by
 rw [List.drop_eq_getElem_cons h,rowsA,hp,if_pos hs]
theorem rowsA_none (h : k < P.length) (hp : P[k] = p) (h1 : ltB p.1.data.toList lo = false) (h2 : ltB p.1.data.toList hi = true) {n : Nat} (hr : rowR pg wd t p.1.data.toList p.2.data.toList = (none,n)) : rowsA pg wd t lo hi acc (P.drop k) = (none,n):=by
 rw [List.drop_eq_getElem_cons h,rowsA,hp,if_neg (by rw [h1,h2];simp),hr]
theorem rowsA_some (h : k < P.length) (hp : P[k] = p) (h1 : ltB p.1.data.toList lo = false) (h2 : ltB p.1.data.toList hi = true) {n : Nat} {r : List ItemD} (hr : rowR pg wd t p.1.data.toList p.2.data.toList = (some r,n)) : rowsA pg wd t lo hi acc (P.drop k) = rowsA pg wd t lo hi (acc ++ [r]) (P.drop (k + 1)):=by
 rw [List.drop_eq_getElem_cons h,rowsA,hp,if_neg (by rw [h1,h2];simp),hr]
theorem rowR_err {kb vb : List UInt8} {n : Nat} (h : rowR pg wd t kb vb = (none,n)) : n ≠ 0:=by
 unfold rowR at h
 split at h
 ·next h1 => injection h with _ h2;rw [← h2];exact h1
 ·split at h
  ·split at h
   ·injection h with _ h2;omega
   ·split at h
    ·injection h with _ h2;omega
    ·injection h with h1;cases h1
  ·injection h with _ h2;omega
theorem rowR_cols {kb vb : List UInt8} {n : Nat} {r : List ItemD} (h : rowR pg wd t kb vb = (some r,n)) : n = 0 ∧ r.length = t.cols.length:=by
 unfold rowR at h
 split at h
 ·injection h with h1;cases h1
 ·next hc =>
  split at h
  ·split at h
   ·injection h with h1;cases h1
   ·split at h
    ·injection h with h1;cases h1
    ·next h3 =>
     injection h with h1 h2
     injection h1 with h1
     refine ⟨h2.symm,?_⟩
     have h4 : (valR pg wd t r).2 = 0:=by rw [← h1];apply Classical.byContradiction;intro hh;exact h3 (.inr (.inl hh))
     unfold valR at h4
     rw [if_neg hc] at h4
     split at h4
     ·cases h4
     ·next h5 => apply Classical.byContradiction;intro hh;exact h5 (.inl hh)
  ·injection h with h1;cases h1
theorem findL_bound (l : List ColD) (s : List UInt8) (i : Nat) : findL l s i < (i + l.length : Nat) ∧ -1 ≤ findL l s i:=by
 induction l generalizing i with
 | nil => simp [findL];omega
 | cons c l ih =>
   rw [findL]
   split
   ·simp;omega
   ·have:=ih (i + 1);simp only [List.length_cons] at this ⊢;omega
theorem findC_bound (t : TabD) (s : ByteArray) : findC t s < t.cols.length:=by
 have:=(findL_bound t.cols s.data.toList 0).1
 rw [Nat.zero_add] at this
 exact this
theorem chkQ_ok {q : QryV} (h : chkQ pg wd t q = 0) : chkT pg wd t = 0 ∧ q.table.data.toList = t.name.data.toList ∧ (bndR pg wd t (VI.dataL q.fr)).2.2 = 0 ∧ (bndR pg wd t (VI.dataL q.tt)).2.2 = 0 ∧ namedB t q = true ∧ (q.wh.all condB) = true ∧ foldsB t q = true ∧ 0 ≤ q.limit:=by
 unfold chkQ at h
 by_cases h1 : chkT pg wd t = 0
 ·rw [if_neg (by omega)] at h
  by_cases h2 : q.table.data.toList = t.name.data.toList
  ·rw [if_neg (by simp [h2])] at h
   by_cases h3 : (bndR pg wd t (VI.dataL q.fr)).2.2 = 0
   ·rw [if_neg (by omega)] at h
    by_cases h4 : (bndR pg wd t (VI.dataL q.tt)).2.2 = 0
    ·rw [if_neg (by omega)] at h
     cases h5 : namedB t q with
     | false => rw [if_pos h5] at h;cases h
     | true =>
       rw [if_neg (by simp [h5])] at h
       cases h6 : q.wh.all condB with
       | false => rw [if_pos h6] at h;cases h
       | true =>
         rw [if_neg (by simp [h6])] at h
         cases h7 : foldsB t q with
         | false => rw [if_pos h7] at h;cases h
         | true =>
           rw [if_neg (by simp [h7])] at h
           by_cases h8 : q.limit < 0
           ·rw [if_pos h8] at h;cases h
           ·exact ⟨h1,h2,h3,h4,rfl,rfl,rfl,by omega⟩
    ·rw [if_pos h4] at h;exact absurd h h4
   ·rw [if_pos h3] at h;exact absurd h h3
  ·rw [if_pos h2] at h;cases h
 ·rw [if_pos h1] at h;exact absurd h h1
theorem QOk.of {q : QryV} (h : chkQ pg wd t q = 0) (hf : 0 ≤ q.fold) : QOk t q:=by
 obtain ⟨_,_,_,_,hn,_,hfo,_⟩:=chkQ_ok h
 have hn':=hn
 rw [namedB,Bool.and_eq_true,Bool.and_eq_true,List.all_eq_true,List.all_eq_true] at hn'
 refine ⟨⟨hf,?_⟩,fun h2 => ⟨named_over hn h2,findC_bound t _⟩,fun s hs => ⟨by simpa using hn'.1.2 s hs,findC_bound t s⟩,fun c hc => ⟨by simpa using hn'.1.1 c hc,findC_bound t _⟩⟩
 apply Classical.byContradiction
 intro h5
 unfold foldsB at hfo
 rw [if_neg (by omega),if_neg (by omega),if_neg (by omega),if_neg (by omega)] at hfo
 cases hfo
end
def keptD (t : TabD) (q : QryV) (rows : List (List ItemD)) : List (List ItemD):=if 0 < q.limit then (rows.filter (keepD t q.wh)).take q.limit.toNat else rows.filter (keepD t q.wh)
def PickOk (pg wd : Int) (t : TabD) (q : QryV) (P : List (ByteArray × ByteArray)) (out : List (List ItemD)) (n : Nat) : Prop :=
 if (spanR pg wd t q).2.2 ≠ 0 then out = [] ∧ n = (spanR pg wd t q).2.2
 else match rowsA pg wd t (spanR pg wd t q).1 (spanR pg wd t q).2.1 [] P with
  | (none,m) => out = [] ∧ n = m
  | (some rows,_) => ComeOk t q (keptD t q (if q.down = true then rows.reverse else rows)) out n
section
variable {pg wd : Int} {t : TabD} {q : QryV} {P : List (ByteArray × ByteArray)}
theorem pick_err (h : (spanR pg wd t q).2.2 ≠ 0) : PickOk pg wd t q P [] (spanR pg wd t q).2.2:=by rw [PickOk,if_pos h];exact ⟨rfl,rfl⟩
theorem pick_none (h : (spanR pg wd t q).2.2 = 0) {n : Nat} (hr : rowsA pg wd t (spanR pg wd t q).1 (spanR pg wd t q).2.1 [] P = (none,n)) : PickOk pg wd t q P [] n:=by rw [PickOk,if_neg (by omega),hr];exact ⟨rfl,rfl⟩
theorem pick_some (h : (spanR pg wd t q).2.2 = 0) {n m : Nat} {rows out : List (List ItemD)} (hr : rowsA pg wd t (spanR pg wd t q).1 (spanR pg wd t q).2.1 [] P = (some rows,n)) (hc : ComeOk t q (keptD t q (if q.down = true then rows.reverse else rows)) out m) : PickOk pg wd t q P out m:=by rw [PickOk,if_neg (by omega),hr];exact hc
theorem spanR_ok (h : (spanR pg wd t q).2.2 = 0) : chkQ pg wd t q = 0:=by
 unfold spanR at h
 split at h
 ·next h1 => exact absurd h h1
 ·next h1 => omega
end
def keptV (t : TabD) (wh : List CondD) (R : List VI) : List VI:=R.filter fun x => keepD t wh (VI.dataL x.l)
theorem keptV_data (t : TabD) (wh : List CondD) (R : List VI) : rowsD (keptV t wh R) = (rowsD R).filter (keepD t wh):=by
 induction R with
 | nil => rfl
 | cons x R ih =>
   simp only [keptV,rowsD,List.filter_cons,List.map_cons] at ih ⊢
   by_cases h : keepD t wh (VI.dataL x.l) = true
   ·simp only [h,if_true,List.map_cons,ih]
   ·simp only [h,if_false,ih];simpa using ih
theorem keptV_take (t : TabD) (wh : List CondD) (R : List VI) (k : Nat) (h : k < R.length) {x : VI} (hx : R[k] = x) {b : Bool} (hb : keepD t wh (VI.dataL x.l) = b) : keptV t wh (R.take (k + 1)) = keptV t wh (R.take k) ++ cond b [x] []:=by
 rw [List.take_succ_eq_append_getElem h,keptV,keptV,List.filter_append,hx]
 cases b <;> simp [hb]
theorem keptV_len (t : TabD) (wh : List CondD) (R : List VI) : (keptV t wh R).length ≤ R.length:=List.length_filter_le ..
theorem keptV_prefix (t : TabD) (wh : List CondD) (R : List VI) (k : Nat) : keptV t wh R = keptV t wh (R.take k) ++ keptV t wh (R.drop k):=by
 conv => lhs;rw [← List.take_append_drop k R]
 exact List.filter_append ..
theorem kept_end {t : TabD} {q : QryV} {R K : List VI} {k : Nat} (hK : K = keptV t q.wh (R.take k)) (h : (0 < q.limit ∧ (K.length : Int) = q.limit) ∨ (R.length ≤ k ∧ (0 < q.limit → (K.length : Int) ≤ q.limit))) : rowsD K = keptD t q (rowsD R):=by
 rw [keptD,← keptV_data]
 rcases h with ⟨h1,h2⟩ | ⟨h1,h2⟩
 ·have hp:=keptV_prefix t q.wh R k
  rw [if_pos h1,hp,← hK,← h2,Int.toNat_natCast,rowsD_app,List.take_left' (rowsD_len K)]
 ·rw [List.take_of_length_le h1] at hK
  by_cases hl : 0 < q.limit
  ·have h3:=h2 hl
   rw [if_pos hl,← hK,List.take_of_length_le (by rw [rowsD_len];omega)]
  ·rw [if_neg hl,hK]
end
end Go.Proofs.YtonjgedhmmnolaaGreatDoor
