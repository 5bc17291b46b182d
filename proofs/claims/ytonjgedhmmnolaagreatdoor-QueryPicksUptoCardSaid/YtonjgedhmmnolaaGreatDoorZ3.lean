import Derived.Test.YtonjgedhmmnolaaGreatDoorZ2
import Derived.IntWalk
import Derived.Lib.ItoaNum
import Derived.Test.YtonjgedhmmnolaaGreatDoorZ1
import Derived.Laws.Externs
namespace Go.Proofs.YtonjgedhmmnolaaGreatDoor
section
set_option maxRecDepth 100000
def needF : Nat → Nat → Nat
 | 0,_ => 0
 | f + 1,n => if n = 0 then 0 else 1 + needF f (n / 256)
def needN (n : Nat) : Nat:=needF 8 n
theorem needF_zero (f : Nat) : needF f 0 = 0:=by cases f <;> simp [needF]
theorem needF_le : ∀ f n,needF f n ≤ f
 | 0,_ => Nat.le_refl _
 | f + 1,n => by have:=needF_le f (n / 256);unfold needF;split <;> omega
theorem needN_le (n : Nat) : needN n ≤ 8:=needF_le 8 n
theorem bitLen_need : ∀ f n,f ≤ 8 → n < 256 ^ f → (Lib.bitLen n + 7) / 8 = needF f n
 | 0,n,_,h => by
   have : n = 0:=by simpa using h
   subst this;rfl
 | f + 1,n,hf,h => by
   have h64 : n < 18446744073709551616:=Nat.lt_of_lt_of_le h (Nat.pow_le_pow_right (by decide) hf : 256 ^ (f + 1) ≤ 256 ^ 8)
   unfold needF
   split
   ·rename_i h0;subst h0;rfl
   ·rename_i h0
    by_cases h8 : 256 ≤ n
    ·have ih:=bitLen_need f (n / 256) (by omega) (by rw [Nat.pow_succ] at h;omega)
     rw [Lib.bitLen_shift8 n h8 h64]
     omega
    ·have e : n / 256 = 0:=by omega
     rw [e,needF_zero]
     have hb:=Lib.bitLen_le8 ⟨n,by omega⟩
     have hc:=(Lib.bitLenAux_bounds 64 n h64 h0).1
     simp only [Lib.bitLen] at hb ⊢
     omega
theorem bitLen_needN (n : Nat) (h : n < 18446744073709551616) : (Lib.bitLen n + 7) / 8 = needN n:=bitLen_need 8 n (Nat.le_refl _) h
theorem needN_step (n : Nat) (h : n < 18446744073709551616) (h0 : n ≠ 0) : needN n = 1 + needN (n / 256):=by
 have h1 : n / 256 < 18446744073709551616:=by omega
 rw [← bitLen_needN n h,← bitLen_needN _ h1]
 have a:=bitLen_need 8 n (Nat.le_refl _) h
 have b:=bitLen_need 7 (n / 256) (by decide) (by have : (256 : Nat) ^ 7 = 72057594037927936:=by decide
                                                 omega)
 rw [a,b,needF,if_neg h0]
theorem needF_lt : ∀ f n,n < 256 ^ f → n < 256 ^ needF f n
 | 0,n,h => h
 | f + 1,n,h => by
   unfold needF
   split
   ·rename_i h0;subst h0;decide
   ·have ih:=needF_lt f (n / 256) (by rw [Nat.pow_succ] at h;omega)
    rw [Nat.add_comm,Nat.pow_succ];omega
theorem needN_lt (n : Nat) (h : n < 18446744073709551616) : n < 256 ^ needN n:=needF_lt 8 n h
theorem u64_neg (n : Int) (h : n < 0) (h1 : -9223372036854775808 ≤ n) : IntKind.u64.wrap (-IntKind.u64.wrap n) = -n:=by
 simp [IntKind.wrap,IntKind.bits,IntKind.signed];omega
end
section
open Go.RowKit
set_option maxHeartbeats 400000
set_option maxRecDepth 100000
theorem truth_c (b : Bool) (w : World) : Calls Tryz.prog 74 #[.bool b] w fun e w' => e = .returned (.int .i64 (if b then 1 else 0)) ∧ w = w':=by
 cases b
 all_goals
  go_enter Tryz.func74,Tryz.ntmps74
  go_wp2
  go_ret
  exact ⟨rfl,rfl⟩
@[go_sem] theorem run_store_float {P : Program} {w : World} {a : Addr} {m : Mode} (k : FloatKind) (f : Nat) : (store a (.float k f) m).run P w = stored P w a (.float k f) m:=run_store P w a _ m rfl
theorem nat_beq0 (n : Nat) : ((n : Int) == 0) = (n == 0):=by cases n <;> rfl
theorem bits_call (f : Nat) (w : World) : (callFunc 106 #[.float .f64 f]).run Tryz.prog w = .ok (.value (.int .u64 f)) w :=
 run_callFunc_extern (e:=Extern.MathFloatBits.float64bits) Tryz.func106 (by kernel_rfl) (by kernel_rfl) (by kernel_rfl) (by kernel_rfl) _ w
theorem from_call (n : Int) (w : World) : (callFunc 141 #[.int .u64 n]).run Tryz.prog w = .ok (.value (.float .f64 n.toNat)) w :=
 run_callFunc_extern (e:=Extern.MathFloatBits.float64frombits) Tryz.func141 (by kernel_rfl) (by kernel_rfl) (by kernel_rfl) (by kernel_rfl) _ w
def isNan (f : Nat) : Bool:=FloatKind.f64.format.order f f != some .eq
def bitsF (f : Nat) : Nat:=if isNan f then 9221120237041090560 else f
def keyF (f : Nat) : Int:=if (bitsF f : Int) / 9223372036854775808 == 1 then bits BinOp.xor IntKind.u64 (bitsF f) 18446744073709551615 else bits BinOp.xor IntKind.u64 (bitsF f) 9223372036854775808
theorem key_c (f : Nat) (w : World) : Calls Tryz.prog 77 #[.float .f64 f] w fun e w' => e = .returned (.int .u64 (keyF f)) ∧ w = w':=by
 have hc:=bits_call
 go_enter Tryz.func77,Tryz.ntmps77
 go_wp2
 all_goals first
  | (go_ret
     refine ⟨?_,rfl⟩
     simp_all [keyF,bitsF,isNan]
     done)
  | skip
theorem width_c (n : Int) (hn : -9223372036854775808 ≤ n ∧ n ≤ 9223372036854775807) (w : World) : Calls Tryz.prog 116 #[.int .i64 n] w fun e w' => e = .returned (.int .i64 (needN n.natAbs)) ∧ w = w':=by
 have hb:=needN_le n.natAbs
 have hl:=bitLen_needN n.natAbs (by omega)
 by_cases hneg : n < 0
 ·have e0:=u64_neg n hneg hn.1
  have e1 : (-n).toNat = n.natAbs:=by omega
  go_enter Tryz.func116,Tryz.ntmps116
  go_wp2_with (go_at_call 135;refine (Tryz.bits_Len64 (-n) _ (by omega) (by omega)).mono ?_;rintro e w1 ⟨rfl,rfl⟩;rw [e1])
  go_ret
  exact ⟨ret_eq (congrArg (Value.int .i64) (by omega)),rfl⟩
 ·have e1 : n.toNat = n.natAbs:=by omega
  go_enter Tryz.func116,Tryz.ntmps116
  go_wp2_with (go_at_call 135;refine (Tryz.bits_Len64 n _ (by omega) (by omega)).mono ?_;rintro e w1 ⟨rfl,rfl⟩;rw [e1])
  go_ret
  exact ⟨ret_eq (congrArg (Value.int .i64) (by omega)),rfl⟩
def cleanN (k : Int) (b : Bool) (n : Int) (f : Nat) (t : ByteArray) (z : Nat) : Bool:=(k == 2 || !b) && (k == 3 || n == 0) && (k == 4 || f == 0) && (k == 5 || t.size == 0) && (k == 6 || z == 0)
def cleanB (x : VI) : Bool:=cleanN x.k x.b x.n x.f x.t x.l.length
theorem toList_size (t : ByteArray) : (t.size == 0) = decide (t.toList = []):=by
 rw [ByteArray.toList_eq]
 rcases t with ⟨⟨l⟩⟩
 cases l <;> simp [ByteArray.size]
theorem clean_c (x : VI) (w : World) : Calls Tryz.prog 94 #[x.val] w fun e w' => e = .returned (.bool (cleanB x)) ∧ Below w.heap.size w w':=by
 have hc:=bits_call
 rcases x with ⟨k,b,n,f,t,A,c,l⟩
 simp only [VI.val,VI.k,VI.b,VI.n,VI.f,VI.t,VI.A,VI.c,VI.l,cleanB,cleanN,toList_size]
 go_enter Tryz.func94,Tryz.ntmps94
 go_wp2
 all_goals first
  | (go_ret
     refine ⟨?_,(Below.refl _ _).alloc (Nat.le_refl _) _⟩
     clear hc
     simp_all [nat_beq0]
     done)
  | skip
 all_goals trace_state
end
section
open Go.RowKit
set_option maxHeartbeats 400000
set_option maxRecDepth 100000
attribute [local go_sem] grow_cell grow_frozen grow_size
theorem cells6 {w : World} {g : Nat} {a b c d e f : Value} {t : TypeId} {fr : Nat × Nat} (hg : w.heap[g]? = some (.cells #[a,b,c,d,e,f] t fr)) :
 w.cell? ⟨g,0,none⟩ = some a ∧ w.cell? ⟨g,1,none⟩ = some b ∧ w.cell? ⟨g,2,none⟩ = some c ∧ w.cell? ⟨g,3,none⟩ = some d ∧ w.cell? ⟨g,4,none⟩ = some e ∧ w.cell? ⟨g,5,none⟩ = some f :=
 ⟨cell_of_row _ _ 0 _ _ _ hg,cell_of_row _ _ 1 _ _ _ hg,cell_of_row _ _ 2 _ _ _ hg,cell_of_row _ _ 3 _ _ _ hg,cell_of_row _ _ 4 _ _ _ hg,cell_of_row _ _ 5 _ _ _ hg⟩
theorem new_box (w : World) (cs : Array Value) (t : TypeId) : Below w.heap.size w (w.alloc (.cells cs t)) ∧ w.heap.size < (w.alloc (.cells cs t)).heap.size ∧ (w.alloc (.cells cs t)).heap[w.heap.size]? = some (.cells cs t (0,0)) :=
 ⟨(Below.refl _ _).alloc (Nat.le_refl _) _,by simp,one_row (Below.refl _ _)⟩
def lenN (k n : Int) (t : ByteArray) : Nat :=
 if k == 3 then 1 + needN n.natAbs else if k == 4 then 9 else if k == 5 then 3 + t.size + Lib.countByte t.data.toList 0 else if k == 6 then 2 else 1
theorem countByte_le (l : List UInt8) (c : UInt8) : Lib.countByte l c ≤ l.length:=by
 unfold Lib.countByte
 exact List.count_le_length
theorem count_size (t : ByteArray) : Lib.countByte t.data.toList 0 ≤ t.size:=by
 have:=countByte_le t.data.toList 0
 rwa [Array.length_toList] at this
theorem lenN_le (k n : Int) (t : ByteArray) (ht : t.size ≤ 140737488355328) : lenN k n t ≤ 562949953421312:=by
 have:=needN_le n.natAbs
 have:=count_size t
 unfold lenN
 repeat' split
 all_goals omega
theorem length_c (x : VI) (ht : x.t.size ≤ 140737488355328) (hn : -9223372036854775808 ≤ x.n ∧ x.n ≤ 9223372036854775807) (w : World) :
 Calls Tryz.prog 95 #[x.val] w fun e w' => e = .returned (.int .i64 (lenN x.k x.n x.t)) ∧ Below w.heap.size w w':=by
 rcases x with ⟨k,b,n,f,t,A,c,l⟩
 simp only [VI.val,VI.k,VI.b,VI.n,VI.f,VI.t,VI.A,VI.c,VI.l] at *
 have hw:=needN_le n.natAbs
 have hcI : Hid ((Lib.countByte t.data.toList 0 : Int) ≤ 140737488355328 ∧ (t.size : Int) ≤ 140737488355328):=Ld (by
  have:=count_size t
  omega)
 clear ht
 go_enter Tryz.func95,Tryz.ntmps95
 go_wp2_with (first
  | (go_at_call 116;refine (width_c n hn _).mono ?_;rintro e w1 ⟨rfl,rfl⟩))
 all_goals first
  | (go_ret
     refine ⟨ret_eq ?_,(Below.refl _ _).alloc (Nat.le_refl _) _⟩
     simp_all [lenN]
     done)
  | skip
 have hnb:=new_box w #[.int .u8 k,.bool b,.int .i64 n,.float .f64 f,.string t,.slice A l.length c] 54
 generalize w.alloc (.cells #[.int .u8 k,.bool b,.int .i64 n,.float .f64 f,.string t,.slice A l.length c] 54) = W0 at hnb ⊢
 obtain ⟨hB0,hlt,hrow⟩:=hnb
 obtain ⟨q0,q1,q2,q3,q4,q5⟩:=cells6 hrow
 refine wp_region_grow (by kernel_rfl) (by kernel_rfl) ?_
 repeat (any_goals (first | go_big_quiet_step ((go_at_call 121;exact quiet_below ((Tryz.strings_Count_one t 0 _).mono fun _ _ ⟨he,hw⟩ => ⟨he,by subst hw;exact Below.refl _ _⟩))) | quiet_step ((go_at_call 121;exact quiet_below ((Tryz.strings_Count_one t 0 _).mono fun _ _ ⟨he,hw⟩ => ⟨he,by subst hw;exact Below.refl _ _⟩)))))
 refine wpQuiet_nil ?_
 intro w2 hb
 go_wp2
 go_ret
 refine ⟨ret_eq ?_,hB0.trans (hb.mono (by omega))⟩
 obtain ⟨h1,h2⟩:=hcI.out
 have hk : lenN k n t = 3 + t.size + Lib.countByte t.data.toList 0:=by
  have e : k = 5:=by simp_all
  subst e
  rfl
 rw [hk]
 have e : wrap64 (wrap64 (3 + (t.size : Int)) + (Lib.countByte t.data.toList 0 : Int)) = ((3 + t.size + Lib.countByte t.data.toList 0 : Nat) : Int):=by
  unfold wrap64;omega
 exact congrArg (Value.int .i64) e
end
section
set_option maxRecDepth 100000
def mayN (k : Int) (b : Bool) (n : Int) (f : Nat) (t : ByteArray) (z : Nat) : Bool:=decide (1 ≤ k) && decide (k ≤ 6) && cleanN k b n f t z
mutual
def walkI : ItemD → Nat → Nat → Nat × Nat
 | .mk k b n f t l,d,m => if 64 ≤ m then (m,31) else if !mayN k b n f t l.length then (m,30) else if k = 6 ∧ 8 ≤ d then (m,32) else walkL l (d + 1) (m + 1)
def walkL : List ItemD → Nat → Nat → Nat × Nat
 | [],_,m => (m,0)
 | x :: l,d,m => if (walkI x d m).2 = 0 then walkL l d (walkI x d m).1 else walkI x d m
end
mutual
def sizeI : ItemD → Nat
 | .mk k _ n _ t l => lenN k n t + if k = 6 then sizeL l else 0
def sizeL : List ItemD → Nat
 | [] => 0
 | x :: l => sizeI x + sizeL l
end
def chkL (l : List ItemD) : Nat:=if (walkL l 0 0).2 ≠ 0 then (walkL l 0 0).2 else if 4096 < sizeL l then 4 else 0
theorem walkI_eq (x : VI) (d m : Nat) : walkI x.data d m = if 64 ≤ m then (m,31) else if !mayN x.k x.b x.n x.f x.t x.l.length then (m,30) else if x.k = 6 ∧ 8 ≤ d then (m,32) else walkL (VI.dataL x.l) (d + 1) (m + 1):=by
 cases x;simp [VI.data,walkI,VI.k,VI.b,VI.n,VI.f,VI.t,VI.l,dataL_eq]
theorem sizeI_eq (x : VI) : sizeI x.data = lenN x.k x.n x.t + if x.k = 6 then sizeL (VI.dataL x.l) else 0:=by
 cases x with | mk k b n f t A c l =>
 simp only [VI.data,sizeI,VI.k,VI.n,VI.t,VI.l]
 by_cases h : k = 6 <;> simp [h]
theorem sizeL_nil : sizeL [] = 0:=by rw [sizeL]
theorem sizeI_may (x : VI) (h : mayN x.k x.b x.n x.f x.t x.l.length = true) : sizeI x.data = lenN x.k x.n x.t + sizeL (VI.dataL x.l):=by
 rw [sizeI_eq]
 split
 ·rfl
 ·rename_i hk
  have hl : x.l = []:=by
   simp only [mayN,cleanN,Bool.and_eq_true,Bool.or_eq_true,beq_iff_eq] at h
   rcases h.2.2 with h | h
   ·exact absurd h hk
   ·exact List.length_eq_zero_iff.1 h
  rw [hl,VI.dataL,sizeL_nil]
theorem walkL_nil (d m : Nat) : walkL [] d m = (m,0):=by rw [walkL]
theorem walkL_cons (x : ItemD) (l : List ItemD) (d m : Nat) : walkL (x :: l) d m = if (walkI x d m).2 = 0 then walkL l d (walkI x d m).1 else walkI x d m:=by rw [walkL]
theorem walkL_app : ∀ (a b : List ItemD) (d m : Nat),walkL (a ++ b) d m = if (walkL a d m).2 = 0 then walkL b d (walkL a d m).1 else walkL a d m
 | [],b,d,m => by simp [walkL_nil]
 | x :: a,b,d,m => by
   rw [List.cons_append,walkL_cons,walkL_cons]
   by_cases h : (walkI x d m).2 = 0
   ·simp only [h,if_true]
    exact walkL_app a b d _
   ·simp only [h,if_false]
theorem sizeL_app : ∀ (a b : List ItemD),sizeL (a ++ b) = sizeL a + sizeL b
 | [],b => by simp [sizeL]
 | x :: a,b => by rw [List.cons_append,sizeL,sizeL,sizeL_app a b];omega
theorem sizeL_one (x : ItemD) : sizeL [x] = sizeI x:=by simp [sizeL]
theorem walkL_take (l : List ItemD) (i : Nat) (h : i < l.length) (d m : Nat) : walkL (l.take (i + 1)) d m = if (walkL (l.take i) d m).2 = 0 then walkI l[i] d (walkL (l.take i) d m).1 else walkL (l.take i) d m:=by
 rw [← List.take_append_getElem h,walkL_app]
 split
 ·rw [walkL_cons]
  split
  ·rename_i h;rw [walkL_nil];exact (Prod.ext rfl h.symm)
  ·rfl
 ·rfl
theorem sizeL_take (l : List ItemD) (i : Nat) (h : i < l.length) : sizeL (l.take (i + 1)) = sizeL (l.take i) + sizeI l[i]:=by
 rw [← List.take_append_getElem h,sizeL_app,sizeL_one]
theorem walkL_of_take (l : List ItemD) (i d m : Nat) (h : (walkL (l.take i) d m).2 ≠ 0) : walkL l d m = walkL (l.take i) d m:=by
 conv => lhs;rw [← List.take_append_drop i l,walkL_app,if_neg h]
end
section
open Go.RowKit
set_option maxHeartbeats 1000000
set_option maxRecDepth 100000
attribute [local go_sem] grow_cell grow_frozen grow_size
abbrev lkBox (w : World) (g : Nat) (n : Nat) (z : Int) : Prop:=w.heap[g]? = some (.cells #[.int .i64 n,.int .i64 z] 102 (0,0))
theorem cells2 {w : World} {g : Nat} {a b : Value} {t : TypeId} (hg : w.heap[g]? = some (.cells #[a,b] t (0,0))) :
 (w.cell? ⟨g,0,none⟩ = some a ∧ w.cell? ⟨g,1,none⟩ = some b) ∧ (w.frozen? ⟨g,0,none⟩ = false ∧ w.frozen? ⟨g,1,none⟩ = false) :=
 ⟨⟨cell_of_row _ _ 0 _ _ _ hg,cell_of_row _ _ 1 _ _ _ hg⟩,⟨frozen_of_row _ _ _ _ _ hg,frozen_of_row _ _ _ _ _ hg⟩⟩
def LookEnd (g : Nat) (w0 : World) (l : List ItemD) (d n : Nat) (z : Int) (e : Ending) (w' : World) : Prop :=
 ∃ z' : Int,e = .returned (.int .i64 (walkL l d n).2) ∧ Below g w0 w' ∧ lkBox w' g (walkL l d n).1 z' ∧
   ((walkL l d n).2 = 0 → z' = z + sizeL l ∧ 0 ≤ z' ∧ z' ≤ (walkL l d n).1 * 562949953421312 ∧ (walkL l d n).1 ≤ 64)
theorem data_at (l : List VI) (k : Nat) (h : k < l.length) : (VI.dataL l)[k]'(by rw [dataL_eq,List.length_map];exact h) = l[k].data:=by
 simp [dataL_eq]
theorem take_at (l : List VI) (k : Nat) (h : k < l.length) (d n : Nat) (h0 : (walkL ((VI.dataL l).take k) d n).2 = 0) :
 walkL ((VI.dataL l).take (k + 1)) d n = walkI l[k].data d (walkL ((VI.dataL l).take k) d n).1:=by
 rw [walkL_take _ _ (by rw [dataL_eq,List.length_map];exact h),if_pos h0,data_at]
theorem size_at (l : List VI) (k : Nat) (h : k < l.length) : sizeL ((VI.dataL l).take (k + 1)) = sizeL ((VI.dataL l).take k) + sizeI l[k].data:=by
 rw [sizeL_take _ _ (by rw [dataL_eq,List.length_map];exact h),data_at]
theorem sz_at {l : List VI} {k : Nat} (h : k < l.length) : SizeOf.sizeOf l[k].l < SizeOf.sizeOf l:=Nat.lt_trans (sz_list _) (sz_lt (List.getElem_mem h))
theorem look_facts {wr W : World} {g : Nat} {a b c d e f : Value} (hg : g < wr.heap.size) (h : Below (wr.heap.size + 1) (wr.alloc (.cells #[a,b,c,d,e,f] 54)) W) :
 W.cell? ⟨wr.heap.size,0,none⟩ = some a ∧ W.cell? ⟨wr.heap.size,1,none⟩ = some b ∧ W.cell? ⟨wr.heap.size,2,none⟩ = some c ∧ W.cell? ⟨wr.heap.size,3,none⟩ = some d ∧ W.cell? ⟨wr.heap.size,4,none⟩ = some e ∧ W.cell? ⟨wr.heap.size,5,none⟩ = some f ∧
 W.cell? ⟨g,0,none⟩ = wr.cell? ⟨g,0,none⟩ ∧ W.cell? ⟨g,1,none⟩ = wr.cell? ⟨g,1,none⟩ ∧ W.frozen? ⟨g,0,none⟩ = wr.frozen? ⟨g,0,none⟩ ∧ W.frozen? ⟨g,1,none⟩ = wr.frozen? ⟨g,1,none⟩ ∧ g < W.heap.size ∧ wr.heap.size < W.heap.size:=by
 have hrow : W.heap[wr.heap.size]? = some (.cells #[a,b,c,d,e,f] 54 (0,0)):=one_row (h.mono (by simp))
 have hb : Below wr.heap.size wr W:=below_a (h.mono (by simp))
 obtain ⟨a0,a1,a2,a3,a4,a5⟩:=cells6 hrow
 have hlt : wr.heap.size < W.heap.size:=(Array.getElem?_eq_some_iff.1 hrow).1
 exact ⟨a0,a1,a2,a3,a4,a5,hb.cell (p:=⟨g,0,none⟩) hg,hb.cell (p:=⟨g,1,none⟩) hg,hb.frozen (p:=⟨g,0,none⟩) hg,hb.frozen (p:=⟨g,1,none⟩) hg,by omega,hlt⟩
structure LookMid (g h : Nat) (w0 : World) (n : Nat) (z : Int) (xs : Array Value) (W : World) : Prop where
 box : lkBox W g n z
 row : W.heap[h]? = some (.cells xs 54 (0,0))
 bel : Below g w0 W
 lt : g < h
section
variable {g h : Nat} {w0 W W' : World} {n : Nat} {z : Int} {xs : Array Value}
theorem LookMid.drew (m : LookMid g h w0 n z xs W) : LookMid g h w0 n z xs W.drew:=⟨m.box,m.row,m.bel.drew,m.lt⟩
theorem LookMid.lth (m : LookMid g h w0 n z xs W) : h < W.heap.size:=(Array.getElem?_eq_some_iff.1 m.row).1
theorem LookMid.step (m : LookMid g h w0 n z xs W) (hb : Below W.heap.size W W') : LookMid g h w0 n z xs W' :=
 ⟨(hb.block g (by have:=m.lth;have:=m.lt;omega)).trans m.box,(hb.block h m.lth).trans m.row,m.bel.trans (hb.mono (by have:=m.lth;have:=m.lt;omega)),m.lt⟩
theorem LookMid.size (m : LookMid g h w0 n z xs W) (z' : Int) : LookMid g h w0 n z' xs (W.setCell ⟨g,1,none⟩ (.int .i64 z')) :=
 ⟨heap_setCell_same W g 1 _ _ (.int .i64 z') m.box,(heap_setCell_other W ⟨g,1,none⟩ h _ (fun e => by have:=m.lt;simp only at e;omega)).trans m.row,m.bel.setCell (p:=⟨g,1,none⟩) (Nat.le_refl _) _,m.lt⟩
theorem LookMid.items (m : LookMid g h w0 n z xs W) (n' : Nat) : LookMid g h w0 n' z xs (W.setCell ⟨g,0,none⟩ (.int .i64 n')) :=
 ⟨heap_setCell_same W g 0 _ _ (.int .i64 n') m.box,(heap_setCell_other W ⟨g,0,none⟩ h _ (fun e => by have:=m.lt;simp only at e;omega)).trans m.row,m.bel.setCell (p:=⟨g,0,none⟩) (Nat.le_refl _) _,m.lt⟩
theorem LookMid.facts {a b c d e f : Value} (m : LookMid g h w0 n z #[a,b,c,d,e,f] W) :
 (W.cell? ⟨h,0,none⟩ = some a ∧ W.cell? ⟨h,1,none⟩ = some b ∧ W.cell? ⟨h,2,none⟩ = some c ∧ W.cell? ⟨h,3,none⟩ = some d ∧ W.cell? ⟨h,4,none⟩ = some e ∧ W.cell? ⟨h,5,none⟩ = some f) ∧
 (W.cell? ⟨g,0,none⟩ = some (.int .i64 n) ∧ W.cell? ⟨g,1,none⟩ = some (.int .i64 z) ∧ W.frozen? ⟨g,0,none⟩ = false ∧ W.frozen? ⟨g,1,none⟩ = false) ∧ h < W.heap.size ∧ g < W.heap.size :=
 ⟨cells6 m.row,⟨(cells2 m.box).1.1,(cells2 m.box).1.2,(cells2 m.box).2.1,(cells2 m.box).2.2⟩,m.lth,Nat.lt_trans m.lt m.lth⟩
end
theorem LookMid.start {g n : Nat} {wr w0 W : World} {z : Int} {a b c d e f : Value} (hg : g < wr.heap.size) (h0 : Below g w0 wr) (hbox : lkBox wr g n z) (h : Below (wr.heap.size + 1) (wr.alloc (.cells #[a,b,c,d,e,f] 54)) W) :
 LookMid g wr.heap.size w0 n z #[a,b,c,d,e,f] W :=
 have hb : Below wr.heap.size wr W:=below_a (h.mono (by simp))
 ⟨(hb.block g hg).trans hbox,one_row (h.mono (by simp)),h0.trans (hb.mono (by omega)),hg⟩
theorem may_ok {x : VI} (h : (1 ≤ x.k ∧ x.k ≤ 6) ∧ (!cleanB x) = false) : mayN x.k x.b x.n x.f x.t x.l.length = true:=by
 obtain ⟨⟨h1,h2⟩,h3⟩:=h
 simp only [cleanB,Bool.not_eq_false'] at h3
 simp [mayN,h1,h2,h3]
theorem may_not {x : VI} (h : (x.k < 1 ∨ 6 < x.k) ∨ (!cleanB x) = true) : mayN x.k x.b x.n x.f x.t x.l.length = false:=by
 rcases h with (h | h) | h
 ·simp [mayN];omega
 ·simp [mayN];omega
 ·simp only [cleanB,Bool.not_eq_true'] at h
  simp [mayN,h]
theorem may_list {x : VI} (h : (1 ≤ x.k ∧ x.k ≤ 6) ∧ (!cleanB x) = false) (hk : ¬ x.k = 6) : x.l = []:=by
 obtain ⟨_,h3⟩:=h
 simp only [cleanB,cleanN,Bool.not_eq_false',Bool.and_eq_true,Bool.or_eq_true,beq_iff_eq] at h3
 rcases h3.2 with h | h
 ·exact absurd h hk
 ·exact List.length_eq_zero_iff.1 h
theorem look_few {m : Nat} (h : m ≤ 64) (hm : ((m : Int) == 64) = false) : ¬ 64 ≤ m:=fun h1 => by
 have : m = 64:=by omega
 rw [this] at hm
 simp at hm
theorem walk_stop {l : List VI} {k d n m : Nat} {r : Nat × Nat} {x : VI} (hT : walkL ((VI.dataL l).take (k + 1)) d n = walkI x.data d m) (hx : walkI x.data d m = r) (he : r.2 ≠ 0) : walkL (VI.dataL l) d n = r:=by
 rw [walkL_of_take _ (k + 1) d n (by rw [hT,hx];exact he),hT,hx]
theorem look_c [Inhabited Thr] (g : Nat) (w0 : World) (hg0 : w0.heap.size ≤ g) : ∀ (s : Nat) (l : List VI) (A : Option Addr) (c d n : Nat) (z : Int) (w : World),SizeOf.sizeOf l ≤ s → RdI w0 A c l → d ≤ 9 → (d ≤ 8 ∨ l = []) → n ≤ 64 →
 (0 ≤ z ∧ z ≤ n * 562949953421312) → Below g w0 w → lkBox w g n z →
 Calls Tryz.prog 60 #[.pointer (some ⟨g,0,none⟩),.slice A l.length c,.int .i64 d] w (LookEnd g w0 (VI.dataL l) d n z):=by
 intro s
 induction s with
 | zero => intro l A c d n z w hs;exfalso;cases l <;> simp at hs
 | succ s ih =>
 intro l A c d n z w hs hR hd hd8 hn hz hB0 hrow0
 have HIH:=Ld ih
 have HR:=Ld hR
 have HZ:=Ld hz
 have HS:=Ld hs
 have HN:=Ld hn
 have HD8:=Ld hd8
 have hlen : l.length * 64 ≤ 140737488355328:=hR.hb
 have HB:=Ld hB0
 have HROW:=Ld hrow0
 clear ih hR hz hs hn hd8 hB0 hrow0
 go_enter Tryz.func60,Tryz.ntmps60
 go_wp2
 go_loopw [12] (fun i wr => ∃ (k : Nat) (z' : Int),k ≤ l.length ∧ i = .int .i64 k ∧ Hid ((walkL ((VI.dataL l).take k) d n).2 = 0) ∧ Hid (Below g w0 wr) ∧ Hid (lkBox wr g (walkL ((VI.dataL l).take k) d n).1 z') ∧
  Hid (z' = z + sizeL ((VI.dataL l).take k) ∧ 0 ≤ z' ∧ z' ≤ (walkL ((VI.dataL l).take k) d n).1 * 562949953421312 ∧ (walkL ((VI.dataL l).take k) d n).1 ≤ 64)) (fun i _ => l.length - (intOf i).toNat)
 case atStart => exact ⟨0,z,Nat.zero_le _,rfl,by rw [List.take_zero,walkL_nil];rfl,HB,by rw [List.take_zero,walkL_nil];exact HROW,by rw [List.take_zero,walkL_nil];exact ⟨by simp [sizeL],HZ.out.1,HZ.out.2,HN.out⟩⟩
 case round =>
  obtain ⟨k,z',hk,rfl,hw0,hBr,hrow,hzz⟩:=hrel
  have HRr:=Ld (HR.out.below (hBr.out.mono hg0))
  by_cases hlt : k < l.length
  ·have hrd:=HRr.out.rd
   have hA : ∃ ab ao,A = some ⟨ab,ao,none⟩:=by obtain ⟨b,o,e,_⟩:=hrd.2 (by omega);exact ⟨b,o,e⟩
   obtain ⟨ab,ao,rfl⟩:=hA
   obtain ⟨p0,p1,p2,p3,p4,p5⟩:=item_at hrd hlt
   have HX:=Ld (HRr.out.hx _ (List.getElem_mem hlt))
   have HX0:=Ld (HR.out.hx _ (List.getElem_mem hlt))
   have HT:=Ld (take_at l k hlt d n hw0.out)
   have HSX:=Ld (sz_at hlt)
   have HTZ:=Ld (size_at l k hlt)
   obtain ⟨⟨q0,q1⟩,⟨f0,f1⟩⟩:=cells2 hrow.out
   have hgw : g < wr.heap.size:=World.block_lt_of_cell? _ _ q0
   generalize l[k] = x at *
   generalize (walkL ((VI.dataL l).take k) d n).1 = m at *
   have hm64 : m ≤ 64:=hzz.out.2.2.2
   have HXB:=Ld (fun W (h : Below (wr.heap.size + 1) (wr.alloc (.cells #[.int .u8 x.k,.bool x.b,.int .i64 x.n,.float .f64 x.f,.string x.t,.slice x.A x.l.length x.c] 54)) W) => look_facts hgw h)
   clear hrd
   go_wp2_with (first
    | (go_at_call 94;go_must (refine (clean_c x _).mono ?_;rintro e w1 ⟨rfl,hb1⟩;have hB1 : Hid (Below (wr.heap.size + 1) (wr.alloc (.cells #[.int .u8 x.k,.bool x.b,.int .i64 x.n,.float .f64 x.f,.string x.t,.slice x.A x.l.length x.c] 54)) w1):=Ld (hb1.mono (by simp));clear hb1;obtain ⟨r0,r1,r2,r3,r4,r5,r6,r7,r8,r9,r10,r11⟩:=HXB.out _ hB1.out;rw [q0] at r6;rw [q1] at r7;rw [f0] at r8;rw [f1] at r9;clear p0 p1 p2 p3 p4 p5 q0 q1 f0 f1)))
   ·have hm : (m : Int) = 64:=by simpa using ‹((m : Int) == 64) = true›
    have hx : walkI x.data d m = (m,31):=by rw [walkI_eq,if_pos (by omega)]
    have hwalk:=walk_stop HT.out hx (by simp)
    go_ret
    exact ⟨z',ret_eq (by rw [hwalk];rfl),hBr.out.alloc (by omega) _,by rw [hwalk];exact (((Below.refl _ _).alloc (Nat.le_refl _) _).block g hgw).trans hrow.out,fun h => absurd (by rw [hwalk] at h;exact h) (by simp)⟩
   ·have hm : ¬ 64 ≤ m:=look_few hm64 ‹((m : Int) == 64) = false›
    have hx : walkI x.data d m = (m,30):=by rw [walkI_eq,if_neg hm,may_not ‹(x.k < 1 ∨ 6 < x.k) ∨ (!cleanB x) = true›];simp
    have hwalk:=walk_stop HT.out hx (by simp)
    have hM:=LookMid.start hgw hBr.out hrow.out hB1.out
    go_ret
    exact ⟨z',ret_eq (by rw [hwalk];rfl),hM.bel,by rw [hwalk];exact hM.box,fun h => absurd (by rw [hwalk] at h;exact h) (by simp)⟩
   ·have hm : ¬ 64 ≤ m:=look_few hm64 ‹((m : Int) == 64) = false›
    have h2:=‹(1 ≤ x.k ∧ x.k ≤ 6) ∧ (!cleanB x) = false›
    have h8 : 8 ≤ d:=by have:=‹8 ≤ (d : Int)›;omega
    have hx : walkI x.data d m = (m,32):=by rw [walkI_eq,if_neg hm,may_ok h2,if_neg (by simp),if_pos ⟨‹x.k = 6›,h8⟩]
    have hwalk:=walk_stop HT.out hx (by simp)
    have hM:=LookMid.start hgw hBr.out hrow.out hB1.out
    go_ret
    exact ⟨z',ret_eq (by rw [hwalk];rfl),hM.bel,by rw [hwalk];exact hM.box,fun h => absurd (by rw [hwalk] at h;exact h) (by simp)⟩
   ·rename_i h5 h4 h3 h2 h1 h0 KK aa
    have HDK:=Ld (show (d + 1 ≤ 9 ∧ (d + 1 ≤ 8 ∨ x.l = [])) ∧ m + 1 ≤ 64 ∧ walkI x.data d m = walkL (VI.dataL x.l) (d + 1) (m + 1) ∧ sizeI x.data = lenN x.k x.n x.t + sizeL (VI.dataL x.l) from
     have hm1 : m ≠ 64:=by intro e;rw [e] at h5;simp at h5
     ⟨by omega,by omega,by rw [walkI_eq,if_neg (by omega),may_ok h2,if_neg (by simp),if_neg (by omega)],sizeI_may _ (may_ok h2)⟩)
    clear h5 h4 h3 h2 h1 h0
    have hM:=Ld ((LookMid.start hgw hBr.out hrow.out hB1.out).items (m + 1))
    clear r0 r1 r2 r3 r4 r5 r6 r7 r8 r9 r10 r11
    have e1 : ((m : Int) + 1) = ((m + 1 : Nat) : Int):=by omega
    rw [e1]
    clear e1
    generalize World.setCell w1 ⟨g,0,none⟩ (.int .i64 ((m + 1 : Nat) : Int)) = W2 at hM ⊢
    refine region_mid (α:=Unit) (fun _ a => (((((((((a.put (some 51) (.pointer (some ⟨g,0,none⟩))).put (some 52) (.pointer (some ⟨g,0,none⟩))).put (some 53) (.pointer (some ⟨g,1,none⟩))).put (some 54) (.int .i64 z')).put (some 55) x.val).put (some 56) (.int .i64 (lenN x.k x.n x.t))).put (some 57) (.int .i64 (IntKind.i64.wrap (z' + lenN x.k x.n x.t)))).put (some 58) (.pointer (some ⟨g,0,none⟩))).put (some 59) (.pointer (some ⟨g,1,none⟩))))
     (fun _ W => LookMid g wr.heap.size w0 (m + 1) (IntKind.i64.wrap (z' + lenN x.k x.n x.t)) #[.int .u8 x.k,.bool x.b,.int .i64 x.n,.float .f64 x.f,.string x.t,.slice x.A x.l.length x.c] W) ?first ?later
    case first =>
     have HF:=Ld (fun W (h : ∃ n z,LookMid g wr.heap.size w0 n z #[.int .u8 x.k,.bool x.b,.int .i64 x.n,.float .f64 x.f,.string x.t,.slice x.A x.l.length x.c] W) => (show _ from let ⟨_,_,m⟩:=h;(And.intro m.facts.1 m.facts.2.2 : _)))
     have hS1:=hM.out
     clear hM
     refine wp_region_tree (S:=fun W => ∃ n z,LookMid g wr.heap.size w0 n z #[.int .u8 x.k,.bool x.b,.int .i64 x.n,.float .f64 x.f,.string x.t,.slice x.A x.l.length x.c] W)
      (.take 0 (.take 1 (.take 2 (.take 4 (.two 3 5 (.run 5 (.take 6 (.take 7 (.take 8 (.run 9 .done))))) (.run 3 (.take 6 (.take 7 (.take 8 (.run 9 .done))))))))))
      (by kernel_rfl) (by kernel_rfl) (by kernel_rfl) (by rintro c a d v W ⟨X,h,_⟩;cases h) ⟨_,_,hS1.drew⟩ ?_
     repeat (apply tree_take;(exact rfl);rfl;(intro W hW;obtain ⟨⟨q0,q1,q2,q3,q4,q5⟩,q6,q7⟩:=HF.out W hW;go_simp;(try with_reducible rfl));simp only [Act.put,List.setIfInBounds_toArray,List.set_cons_zero,List.set_cons_succ])
     refine tree_two ?_ ?_
     ·obtain ⟨_,⟨q6,q7,q8,q9⟩,_⟩:=hS1.drew.facts
      apply tree_run;(exact rfl);rfl;intro K hK;go_simp
      refine hK.out _ _ ⟨_,_,hS1.drew⟩ (fun _ => ?_)
      clear hK K
      try simp only [Act.put,List.setIfInBounds_toArray,List.set_cons_zero,List.set_cons_succ]
      clear q6 q7 q8 q9
      apply tree_run;(exact rfl);rfl;intro K hK;go_simp
      refine (length_c x HX.out.ht HX.out.hn _).mono ?_
      rintro e w3 ⟨rfl,hb3⟩
      have hS2:=hS1.drew.step hb3
      refine hK.out _ _ ⟨_,_,hS2⟩ (fun _ => ?_)
      clear hK K
      try simp only [Act.put,List.setIfInBounds_toArray,List.set_cons_zero,List.set_cons_succ]
      obtain ⟨_,⟨q6,q7,q8,q9⟩,_⟩:=hS2.facts
      repeat (apply tree_take;(exact rfl);rfl;(intro W hW;go_simp;(try with_reducible rfl));simp only [Act.put,List.setIfInBounds_toArray,List.set_cons_zero,List.set_cons_succ])
      apply tree_run;(exact rfl);rfl;intro K hK;go_simp
      refine hK.out _ _ ⟨_,_,hS2.size _⟩ (fun _ => ?_)
      clear hK K
      try simp only [Act.put,List.setIfInBounds_toArray,List.set_cons_zero,List.set_cons_succ]
      exact tree_done ⟨(),rfl,rfl,hS2.size _⟩
     ·apply tree_run;(exact rfl);rfl;intro K hK;go_simp
      refine (length_c x HX.out.ht HX.out.hn _).mono ?_
      rintro e w3 ⟨rfl,hb3⟩
      have hS2:=hS1.drew.step hb3
      refine hK.out _ _ ⟨_,_,hS2⟩ (fun _ => ?_)
      clear hK K
      try simp only [Act.put,List.setIfInBounds_toArray,List.set_cons_zero,List.set_cons_succ]
      obtain ⟨_,⟨q6,q7,q8,q9⟩,_⟩:=hS2.facts
      apply tree_run;(exact rfl);rfl;intro K hK;go_simp
      refine hK.out _ _ ⟨_,_,hS2⟩ (fun _ => ?_)
      clear hK K
      try simp only [Act.put,List.setIfInBounds_toArray,List.set_cons_zero,List.set_cons_succ]
      repeat (apply tree_take;(exact rfl);rfl;(intro W hW;go_simp;(try with_reducible rfl));simp only [Act.put,List.setIfInBounds_toArray,List.set_cons_zero,List.set_cons_succ])
      apply tree_run;(exact rfl);rfl;intro K hK;go_simp
      refine hK.out _ _ ⟨_,_,hS2.size _⟩ (fun _ => ?_)
      clear hK K
      try simp only [Act.put,List.setIfInBounds_toArray,List.set_cons_zero,List.set_cons_succ]
      exact tree_done ⟨(),rfl,rfl,hS2.size _⟩
    case later =>
     rintro ⟨⟩ W3 hW3
     have hz4:=lenN_le x.k x.n x.t HX.out.ht
     have ez : IntKind.i64.wrap (z' + lenN x.k x.n x.t) = z' + lenN x.k x.n x.t:=IntWalk.i64_in _ (by have:=hzz.out;omega)
     rw [ez] at hW3 ⊢
     have HM3:=Ld hW3
     have HREC:=Ld (HIH.out x.l x.A x.c (d + 1) (m + 1) (z' + lenN x.k x.n x.t) W3 (by have:=HSX.out;have:=HS.out;omega) HX0.out.list HDK.out.1.1 HDK.out.1.2 HDK.out.2.1 (by have:=hzz.out;constructor <;> omega) hW3.bel hW3.box)
     have HI:=Ld HDK.out.2.2.1
     have HSI:=Ld HDK.out.2.2.2
     have hdd : ((d + 1 : Nat) : Int) = (d : Int) + 1:=by omega
     rw [hdd] at HREC
     clear hM hdd ez hz4 HDK
     obtain ⟨⟨q0,q1,q2,q3,q4,q5⟩,⟨q6,q7,q8,q9⟩,q10,q11⟩:=hW3.facts
     clear hW3
     simp only [Act.put,List.setIfInBounds_toArray,List.set_cons_zero,List.set_cons_succ]
     go_wp2_with (go_at_call 60;go_must (refine HREC.out.mono ?_;rintro e w4 ⟨z4,rfl,hB4,hbox4,hz4⟩;have HB4:=Ld hB4;have HBOX4:=Ld hbox4;have HZ4:=Ld hz4;clear hB4 hbox4 hz4 q0 q1 q2 q3 q4 q5 q6 q7 q8 q9 q10 q11))
     ·rename_i hne
      have hne : (walkL (VI.dataL x.l) (d + 1) (m + 1)).2 ≠ 0:=fun h => by rw [h] at hne;simp at hne
      have hwalk:=walk_stop HT.out HI.out hne
      go_ret
      exact ⟨z4,ret_eq (by rw [hwalk];rfl),HB4.out,by rw [hwalk];exact HBOX4.out,fun h => absurd (by rw [hwalk] at h;exact h) hne⟩
     ·rename_i hne
      have hne : (walkL (VI.dataL x.l) (d + 1) (m + 1)).2 = 0:=by
       by_cases h : (walkL (VI.dataL x.l) (d + 1) (m + 1)).2 = 0
       ·exact h
       ·exfalso
        have : ((walkL (VI.dataL x.l) (d + 1) (m + 1)).2 : Int) ≠ 0:=by omega
        exact this (by simpa using hne)
      have hT:=HT.out.trans HI.out
      obtain ⟨hz1,hz2,hz3,hz4⟩:=HZ4.out hne
      refine ⟨⟨k + 1,z4,by omega,by go_num,by rw [hT];exact hne,HB4,by rw [hT];exact HBOX4,?_⟩,by simp [intOf];omega⟩
      rw [hT]
      refine ⟨?_,hz2,hz3,hz4⟩
      rw [HTZ.out,HSI.out,hz1,hzz.out.1]
      push_cast
      omega
   ·rename_i h5 h4 h3 h2 h1 KK aa
    have HDK:=Ld (show (d + 1 ≤ 9 ∧ (d + 1 ≤ 8 ∨ x.l = [])) ∧ m + 1 ≤ 64 ∧ walkI x.data d m = walkL (VI.dataL x.l) (d + 1) (m + 1) ∧ sizeI x.data = lenN x.k x.n x.t + sizeL (VI.dataL x.l) from
     have hm1 : m ≠ 64:=by intro e;rw [e] at h5;simp at h5
     ⟨⟨by have:=HD8.out;rcases this with h | h;omega;(rw [h] at hlt;simp at hlt),Or.inr (may_list h2 h1)⟩,by omega,by rw [walkI_eq,if_neg (by omega),may_ok h2,if_neg (by simp),if_neg (by omega)],sizeI_may _ (may_ok h2)⟩)
    clear h5 h4 h3 h2 h1
    have hM:=Ld ((LookMid.start hgw hBr.out hrow.out hB1.out).items (m + 1))
    clear r0 r1 r2 r3 r4 r5 r6 r7 r8 r9 r10 r11
    have e1 : ((m : Int) + 1) = ((m + 1 : Nat) : Int):=by omega
    rw [e1]
    clear e1
    generalize World.setCell w1 ⟨g,0,none⟩ (.int .i64 ((m + 1 : Nat) : Int)) = W2 at hM ⊢
    refine region_mid (α:=Unit) (fun _ a => (((((((((a.put (some 51) (.pointer (some ⟨g,0,none⟩))).put (some 52) (.pointer (some ⟨g,0,none⟩))).put (some 53) (.pointer (some ⟨g,1,none⟩))).put (some 54) (.int .i64 z')).put (some 55) x.val).put (some 56) (.int .i64 (lenN x.k x.n x.t))).put (some 57) (.int .i64 (IntKind.i64.wrap (z' + lenN x.k x.n x.t)))).put (some 58) (.pointer (some ⟨g,0,none⟩))).put (some 59) (.pointer (some ⟨g,1,none⟩))))
     (fun _ W => LookMid g wr.heap.size w0 (m + 1) (IntKind.i64.wrap (z' + lenN x.k x.n x.t)) #[.int .u8 x.k,.bool x.b,.int .i64 x.n,.float .f64 x.f,.string x.t,.slice x.A x.l.length x.c] W) ?first ?later
    case first =>
     have HF:=Ld (fun W (h : ∃ n z,LookMid g wr.heap.size w0 n z #[.int .u8 x.k,.bool x.b,.int .i64 x.n,.float .f64 x.f,.string x.t,.slice x.A x.l.length x.c] W) => (show _ from let ⟨_,_,m⟩:=h;(And.intro m.facts.1 m.facts.2.2 : _)))
     have hS1:=hM.out
     clear hM
     refine wp_region_tree (S:=fun W => ∃ n z,LookMid g wr.heap.size w0 n z #[.int .u8 x.k,.bool x.b,.int .i64 x.n,.float .f64 x.f,.string x.t,.slice x.A x.l.length x.c] W)
      (.take 0 (.take 1 (.take 2 (.take 4 (.two 3 5 (.run 5 (.take 6 (.take 7 (.take 8 (.run 9 .done))))) (.run 3 (.take 6 (.take 7 (.take 8 (.run 9 .done))))))))))
      (by kernel_rfl) (by kernel_rfl) (by kernel_rfl) (by rintro c a d v W ⟨X,h,_⟩;cases h) ⟨_,_,hS1.drew⟩ ?_
     repeat (apply tree_take;(exact rfl);rfl;(intro W hW;obtain ⟨⟨q0,q1,q2,q3,q4,q5⟩,q6,q7⟩:=HF.out W hW;go_simp;(try with_reducible rfl));simp only [Act.put,List.setIfInBounds_toArray,List.set_cons_zero,List.set_cons_succ])
     refine tree_two ?_ ?_
     ·obtain ⟨_,⟨q6,q7,q8,q9⟩,_⟩:=hS1.drew.facts
      apply tree_run;(exact rfl);rfl;intro K hK;go_simp
      refine hK.out _ _ ⟨_,_,hS1.drew⟩ (fun _ => ?_)
      clear hK K
      try simp only [Act.put,List.setIfInBounds_toArray,List.set_cons_zero,List.set_cons_succ]
      clear q6 q7 q8 q9
      apply tree_run;(exact rfl);rfl;intro K hK;go_simp
      refine (length_c x HX.out.ht HX.out.hn _).mono ?_
      rintro e w3 ⟨rfl,hb3⟩
      have hS2:=hS1.drew.step hb3
      refine hK.out _ _ ⟨_,_,hS2⟩ (fun _ => ?_)
      clear hK K
      try simp only [Act.put,List.setIfInBounds_toArray,List.set_cons_zero,List.set_cons_succ]
      obtain ⟨_,⟨q6,q7,q8,q9⟩,_⟩:=hS2.facts
      repeat (apply tree_take;(exact rfl);rfl;(intro W hW;go_simp;(try with_reducible rfl));simp only [Act.put,List.setIfInBounds_toArray,List.set_cons_zero,List.set_cons_succ])
      apply tree_run;(exact rfl);rfl;intro K hK;go_simp
      refine hK.out _ _ ⟨_,_,hS2.size _⟩ (fun _ => ?_)
      clear hK K
      try simp only [Act.put,List.setIfInBounds_toArray,List.set_cons_zero,List.set_cons_succ]
      exact tree_done ⟨(),rfl,rfl,hS2.size _⟩
     ·apply tree_run;(exact rfl);rfl;intro K hK;go_simp
      refine (length_c x HX.out.ht HX.out.hn _).mono ?_
      rintro e w3 ⟨rfl,hb3⟩
      have hS2:=hS1.drew.step hb3
      refine hK.out _ _ ⟨_,_,hS2⟩ (fun _ => ?_)
      clear hK K
      try simp only [Act.put,List.setIfInBounds_toArray,List.set_cons_zero,List.set_cons_succ]
      obtain ⟨_,⟨q6,q7,q8,q9⟩,_⟩:=hS2.facts
      apply tree_run;(exact rfl);rfl;intro K hK;go_simp
      refine hK.out _ _ ⟨_,_,hS2⟩ (fun _ => ?_)
      clear hK K
      try simp only [Act.put,List.setIfInBounds_toArray,List.set_cons_zero,List.set_cons_succ]
      repeat (apply tree_take;(exact rfl);rfl;(intro W hW;go_simp;(try with_reducible rfl));simp only [Act.put,List.setIfInBounds_toArray,List.set_cons_zero,List.set_cons_succ])
      apply tree_run;(exact rfl);rfl;intro K hK;go_simp
      refine hK.out _ _ ⟨_,_,hS2.size _⟩ (fun _ => ?_)
      clear hK K
      try simp only [Act.put,List.setIfInBounds_toArray,List.set_cons_zero,List.set_cons_succ]
      exact tree_done ⟨(),rfl,rfl,hS2.size _⟩
    case later =>
     rintro ⟨⟩ W3 hW3
     have hz4:=lenN_le x.k x.n x.t HX.out.ht
     have ez : IntKind.i64.wrap (z' + lenN x.k x.n x.t) = z' + lenN x.k x.n x.t:=IntWalk.i64_in _ (by have:=hzz.out;omega)
     rw [ez] at hW3 ⊢
     have HM3:=Ld hW3
     have HREC:=Ld (HIH.out x.l x.A x.c (d + 1) (m + 1) (z' + lenN x.k x.n x.t) W3 (by have:=HSX.out;have:=HS.out;omega) HX0.out.list HDK.out.1.1 HDK.out.1.2 HDK.out.2.1 (by have:=hzz.out;constructor <;> omega) hW3.bel hW3.box)
     have HI:=Ld HDK.out.2.2.1
     have HSI:=Ld HDK.out.2.2.2
     have hdd : ((d + 1 : Nat) : Int) = (d : Int) + 1:=by omega
     rw [hdd] at HREC
     clear hM hdd ez hz4 HDK
     obtain ⟨⟨q0,q1,q2,q3,q4,q5⟩,⟨q6,q7,q8,q9⟩,q10,q11⟩:=hW3.facts
     clear hW3
     simp only [Act.put,List.setIfInBounds_toArray,List.set_cons_zero,List.set_cons_succ]
     go_wp2_with (go_at_call 60;go_must (refine HREC.out.mono ?_;rintro e w4 ⟨z4,rfl,hB4,hbox4,hz4⟩;have HB4:=Ld hB4;have HBOX4:=Ld hbox4;have HZ4:=Ld hz4;clear hB4 hbox4 hz4 q0 q1 q2 q3 q4 q5 q6 q7 q8 q9 q10 q11))
     ·rename_i hne
      have hne : (walkL (VI.dataL x.l) (d + 1) (m + 1)).2 ≠ 0:=fun h => by rw [h] at hne;simp at hne
      have hwalk:=walk_stop HT.out HI.out hne
      go_ret
      exact ⟨z4,ret_eq (by rw [hwalk];rfl),HB4.out,by rw [hwalk];exact HBOX4.out,fun h => absurd (by rw [hwalk] at h;exact h) hne⟩
     ·rename_i hne
      have hne : (walkL (VI.dataL x.l) (d + 1) (m + 1)).2 = 0:=by
       by_cases h : (walkL (VI.dataL x.l) (d + 1) (m + 1)).2 = 0
       ·exact h
       ·exfalso
        have : ((walkL (VI.dataL x.l) (d + 1) (m + 1)).2 : Int) ≠ 0:=by omega
        exact this (by simpa using hne)
      have hT:=HT.out.trans HI.out
      obtain ⟨hz1,hz2,hz3,hz4⟩:=HZ4.out hne
      refine ⟨⟨k + 1,z4,by omega,by go_num,by rw [hT];exact hne,HB4,by rw [hT];exact HBOX4,?_⟩,by simp [intOf];omega⟩
      rw [hT]
      refine ⟨?_,hz2,hz3,hz4⟩
      rw [HTZ.out,HSI.out,hz1,hzz.out.1]
      push_cast
      omega
   ·have hm : ¬ 64 ≤ m:=look_few hm64 ‹((m : Int) == 64) = false›
    have hx : walkI x.data d m = (m,30):=by rw [walkI_eq,if_neg hm,may_not (Or.inl (Or.inr ‹6 < x.k›))];simp
    have hwalk:=walk_stop HT.out hx (by simp)
    go_ret
    exact ⟨z',ret_eq (by rw [hwalk];rfl),hBr.out.alloc (by omega) _,by rw [hwalk];exact (((Below.refl _ _).alloc (Nat.le_refl _) _).block g hgw).trans hrow.out,fun h => absurd (by rw [hwalk] at h;exact h) (by simp)⟩
   ·have hm : ¬ 64 ≤ m:=look_few hm64 ‹((m : Int) == 64) = false›
    have hx : walkI x.data d m = (m,30):=by rw [walkI_eq,if_neg hm,may_not (Or.inl (Or.inl ‹x.k < 1›))];simp
    have hwalk:=walk_stop HT.out hx (by simp)
    go_ret
    exact ⟨z',ret_eq (by rw [hwalk];rfl),hBr.out.alloc (by omega) _,by rw [hwalk];exact (((Below.refl _ _).alloc (Nat.le_refl _) _).block g hgw).trans hrow.out,fun h => absurd (by rw [hwalk] at h;exact h) (by simp)⟩
  ·go_wp2
   go_ret
   have e:=List.take_of_length_le (l:=VI.dataL l) (i:=k) (by rw [dataL_eq,List.length_map];omega)
   rw [e] at hw0 hrow hzz
   exact ⟨z',ret_eq (by rw [hw0.out];rfl),hBr.out,hrow.out,fun _ => hzz.out⟩
end
section
open Go.RowKit
set_option maxHeartbeats 1000000
set_option maxRecDepth 100000
theorem int_zero {n : Nat} (h : ((n : Int) != 0) = false) : n = 0:=by simpa using h
theorem Check_c [Inhabited Thr] (A : Option Addr) (c : Nat) (l : List VI) (w : World) (hR : RdI w A c l) :
 Calls Tryz.prog 29 #[.slice A l.length c] w fun e w' => e = .returned (.int .i64 (chkL (VI.dataL l))) ∧ Below w.heap.size w w':=by
 have HL:=Ld (look_c w.heap.size w (Nat.le_refl _) _ l A c 0 0 0 (w.alloc (.cells #[.int .i64 0,.int .i64 0] 102)) (Nat.le_refl _) hR (by decide) (.inl (by decide)) (by decide) (by decide) ((Below.refl _ _).alloc (Nat.le_refl _) _) (one_row (Below.refl _ _)))
 clear hR
 go_enter Tryz.func29,Tryz.ntmps29
 go_wp2_with (go_at_call 60;go_must (refine HL.out.mono ?_;rintro e w1 ⟨z1,rfl,hB,hbox,hz⟩;have HB:=Ld hB;have HZ:=Ld hz;obtain ⟨⟨q0,q1⟩,⟨f0,f1⟩⟩:=cells2 hbox;clear hB hbox hz))
 ·rename_i hne
  have hne : (walkL (VI.dataL l) 0 0).2 ≠ 0:=fun h => by rw [h] at hne;simp at hne
  go_ret
  exact ⟨ret_eq (congrArg (fun n : Nat => Value.int .i64 n) (show _ = _ by rw [chkL,if_pos hne])),HB.out⟩
 ·have h4:=‹4096 < z1›
  have h0 : (walkL (VI.dataL l) 0 0).2 = 0:=int_zero ‹_›
  have hs:=(HZ.out h0).1
  go_ret
  exact ⟨ret_eq (congrArg (fun n : Nat => Value.int .i64 n) (show 4 = _ by rw [chkL,if_neg (by simp [h0]),if_pos (by omega)])),HB.out⟩
 ·have h4:=‹z1 ≤ 4096›
  have h0 : (walkL (VI.dataL l) 0 0).2 = 0:=int_zero ‹_›
  have hs:=(HZ.out h0).1
  go_ret
  exact ⟨ret_eq (congrArg (fun n : Nat => Value.int .i64 n) (show 0 = _ by rw [chkL,if_neg (by simp [h0]),if_neg (by omega)])),HB.out⟩
theorem walk_size [Inhabited Thr] (w : World) : ∀ (s : Nat) (l : List VI) (d n : Nat),SizeOf.sizeOf l ≤ s → (∀ y ∈ l,RdV w y) → (walkL (VI.dataL l) d n).2 = 0 → n ≤ 64 →
 n ≤ (walkL (VI.dataL l) d n).1 ∧ (walkL (VI.dataL l) d n).1 ≤ 64 ∧ sizeL (VI.dataL l) ≤ ((walkL (VI.dataL l) d n).1 - n) * 562949953421312:=by
 intro s
 induction s with
 | zero => intro l d n hs;exfalso;cases l <;> simp at hs
 | succ s ih =>
 intro l
 induction l with
 | nil => intro d n _ _ _ hn;rw [VI.dataL,walkL_nil,sizeL_nil];exact ⟨Nat.le_refl _,hn,by simp⟩
 | cons x l ihl =>
   intro d n hs hx h0 hn
   have hsx : SizeOf.sizeOf x.l < SizeOf.sizeOf (x :: l):=Nat.lt_trans (sz_list x) (sz_lt List.mem_cons_self)
   have hsl : SizeOf.sizeOf l < SizeOf.sizeOf (x :: l):=by simp;omega
   have hxx:=hx x List.mem_cons_self
   rw [VI.dataL,walkL_cons] at h0
   rw [VI.dataL,walkL_cons,sizeL]
   by_cases h1 : (walkI x.data d n).2 = 0
   ·rw [if_pos h1] at h0 ⊢
    rw [walkI_eq] at h1 h0 ⊢
    by_cases c1 : 64 ≤ n
    ·rw [if_pos c1] at h1;simp at h1
    rw [if_neg c1] at h1 h0 ⊢
    by_cases c2 : mayN x.k x.b x.n x.f x.t x.l.length = true
    ·rw [c2] at h1 h0 ⊢
     rw [if_neg (by simp)] at h1 h0 ⊢
     by_cases c3 : x.k = 6 ∧ 8 ≤ d
     ·rw [if_pos c3] at h1;simp at h1
     rw [if_neg c3] at h1 h0 ⊢
     have a:=ih x.l (d + 1) (n + 1) (by omega) (fun y hy => hxx.list.hx y hy) h1 (by omega)
     have b:=ihl d _ (by omega) (fun y hy => hx y (List.mem_cons_of_mem _ hy)) h0 a.2.1
     have hz:=lenN_le x.k x.n x.t hxx.ht
     rw [sizeI_may x c2]
     generalize (walkL (VI.dataL x.l) (d + 1) (n + 1)).1 = m1 at *
     generalize (walkL (VI.dataL l) d m1).1 = m2 at *
     refine ⟨by omega,by omega,?_⟩
     have : (m2 - n) * 562949953421312 = 562949953421312 + (m1 - (n + 1)) * 562949953421312 + (m2 - m1) * 562949953421312:=by omega
     omega
    ·have c2 : mayN x.k x.b x.n x.f x.t x.l.length = false:=by simpa using c2
     rw [c2] at h1;simp at h1
   ·rw [if_neg h1] at h0;exact absurd h0 h1
end
section
open Go.RowKit
set_option maxHeartbeats 1000000
set_option maxRecDepth 100000
theorem refMay_c (x : VI) (hk : 0 ≤ x.k ∧ x.k ≤ 255) (w : World) : Calls Tryz.prog 122 #[x.val] w fun e w' => e = .returned (.bool (mayN x.k x.b x.n x.f x.t x.l.length)) ∧ Below w.heap.size w w':=by
 have hc:=bits_call
 rcases x with ⟨k,b,n,f,t,A,c,l⟩
 simp only [VI.val,VI.k,VI.b,VI.n,VI.f,VI.t,VI.A,VI.c,VI.l,mayN,cleanN,toList_size] at *
 go_enter Tryz.func122,Tryz.ntmps122
 go_wp2
 all_goals first
  | (go_ret
     refine ⟨ret_eq ?_,(Below.refl _ _).alloc (Nat.le_refl _) _⟩
     clear hc
     simp_all [nat_beq0]
     done)
  | skip
 ·have h:=‹k < 1 ∨ 6 < k›
  have h1:=‹1 ≤ k›
  have e : ¬ k ≤ 6:=by omega
  go_ret
  exact ⟨ret_eq (congrArg Value.bool (by simp [e])),(Below.refl _ _).alloc (Nat.le_refl _) _⟩
 ·have h1:=‹k < 1›
  have e : ¬ 1 ≤ k:=by omega
  go_ret
  exact ⟨ret_eq (congrArg Value.bool (by simp [e])),(Below.refl _ _).alloc (Nat.le_refl _) _⟩
theorem refFar_c (n : Int) (hn : -9223372036854775808 ≤ n ∧ n ≤ 9223372036854775807) (w : World) : Calls Tryz.prog 124 #[.int .i64 n] w fun e w' => e = .returned (.int .u64 n.natAbs) ∧ w = w':=by
 by_cases hneg : n < 0
 ·have e0:=u64_neg n hneg hn.1
  go_enter Tryz.func124,Tryz.ntmps124
  go_wp2
  go_ret
  exact ⟨ret_eq (congrArg (Value.int .u64) (by omega)),rfl⟩
 ·go_enter Tryz.func124,Tryz.ntmps124
  go_wp2
  go_ret
  exact ⟨ret_eq (congrArg (Value.int .u64) (by omega)),rfl⟩
theorem refNeed_c (n : Nat) (hn : n < 18446744073709551616) (w : World) : Calls Tryz.prog 123 #[.int .u64 n] w fun e w' => e = .returned (.int .i64 (needN n)) ∧ w = w':=by
 have h8:=needN_le n
 go_enter Tryz.func123,Tryz.ntmps123
 go_wp2
 go_loop [0,3] (fun a m => ∃ x j : Nat,a = .int .u64 x ∧ m = .int .i64 j ∧ x < 18446744073709551616 ∧ j + needN x = needN n) (fun a _ => (intOf a).toNat)
 case atStart => exact ⟨n,0,rfl,rfl,hn,by omega⟩
 case round =>
  obtain ⟨x,j,rfl,rfl,hx,hj⟩:=hrel
  by_cases h0 : x = 0
  ·subst h0
   go_wp2
   go_ret
   rw [show needN 0 = 0 from rfl] at hj
   exact ⟨ret_eq (congrArg (Value.int .i64) (by omega)),rfl⟩
  ·have hs:=needN_step x hx h0
   have e : (x : Int) / 256 = ((x / 256 : Nat) : Int):=by omega
   have hx0 : (0 : Int) < x:=by omega
   have HX:=Ld (And.intro e hs)
   clear e hs
   go_wp2
   obtain ⟨e,hs⟩:=HX.out
   refine ⟨⟨x / 256,j + 1,by rw [e],by push_cast;rfl,by omega,by omega⟩,?_⟩
   rw [e]
   simp only [intOf,Int.toNat_natCast]
   omega
end
section
open Go.RowKit
set_option maxHeartbeats 1000000
set_option maxRecDepth 100000
theorem int_pos {n : Nat} (h : ((n : Int) != 0) = true) : n ≠ 0:=by simpa using h
theorem mayN_list {x : VI} (h : mayN x.k x.b x.n x.f x.t x.l.length = true) (hk : ¬ x.k = 6) : x.l = []:=by
 simp only [mayN,cleanN,Bool.and_eq_true,Bool.or_eq_true,beq_iff_eq] at h
 rcases h.2.2 with h | h
 ·exact absurd h hk
 ·exact List.length_eq_zero_iff.1 h
theorem refWalk_c [Inhabited Thr] (w0 : World) : ∀ (s : Nat) (l : List VI) (A : Option Addr) (c d n : Nat) (w : World),SizeOf.sizeOf l ≤ s → RdI w0 A c l → d ≤ 9 → (d ≤ 8 ∨ l = []) → n ≤ 64 → Below w0.heap.size w0 w →
 Calls Tryz.prog 99 #[.slice A l.length c,.int .i64 d,.int .i64 n] w fun e w' => e = .returned (.tuple #[.int .i64 (walkL (VI.dataL l) d n).1,.int .i64 (walkL (VI.dataL l) d n).2]) ∧ Below w.heap.size w w':=by
 intro s
 induction s with
 | zero => intro l A c d n w hs;exfalso;cases l <;> simp at hs
 | succ s ih =>
 intro l A c d n w hs hR hd hd8 hn hB0
 have HIH:=Ld ih
 have HR:=Ld hR
 have HS:=Ld hs
 have HN:=Ld hn
 have HD8:=Ld hd8
 have hlen : l.length * 64 ≤ 140737488355328:=hR.hb
 have HB:=Ld hB0
 clear ih hR hs hn hd8 hB0
 go_enter Tryz.func99,Tryz.ntmps99
 go_wp2
 go_loopw [2,8] (fun m i wr => ∃ (k j : Nat),k ≤ l.length ∧ i = .int .i64 k ∧ m = .int .i64 j ∧ j ≤ 64 ∧ Hid (walkL ((VI.dataL l).take k) d n = (j,0)) ∧ Hid (Below w.heap.size w wr)) (fun _ i _ => l.length - (intOf i).toNat)
 case atStart => exact ⟨0,n,Nat.zero_le _,rfl,rfl,HN.out,by rw [List.take_zero,walkL_nil];exact Ld rfl,Ld (Below.refl _ _)⟩
 case round =>
  obtain ⟨k,m,hk,rfl,rfl,hm64,hw0,hBr⟩:=hrel
  have HB0:=Ld (HB.out.trans (hBr.out.mono HB.out.size))
  have HRr:=Ld (HR.out.below HB0.out)
  by_cases hlt : k < l.length
  ·have hrd:=HRr.out.rd
   have hA : ∃ ab ao,A = some ⟨ab,ao,none⟩:=by obtain ⟨b,o,e,_⟩:=hrd.2 (by omega);exact ⟨b,o,e⟩
   obtain ⟨ab,ao,rfl⟩:=hA
   obtain ⟨p0,p1,p2,p3,p4,p5⟩:=item_at hrd hlt
   have HX:=Ld (HRr.out.hx _ (List.getElem_mem hlt))
   have HX0:=Ld (HR.out.hx _ (List.getElem_mem hlt))
   have HT:=Ld (take_at l k hlt d n (by rw [hw0.out]))
   rw [hw0.out] at HT
   have HSX:=Ld (sz_at hlt)
   generalize l[k] = x at *
   clear hrd
   have HIT:=Ld (fun W (h : Below wr.heap.size wr W) => (⟨(h.cell (p:=⟨ab,ao + k * 6,none⟩) (World.block_lt_of_cell? _ _ p0)).trans p0,(h.cell (p:=⟨ab,ao + k * 6 + 5,none⟩) (World.block_lt_of_cell? _ _ p5)).trans p5⟩ : W.cell? ⟨ab,ao + k * 6,none⟩ = some (.int .u8 x.k) ∧ W.cell? ⟨ab,ao + k * 6 + 5,none⟩ = some (.slice x.A x.l.length x.c)))
   by_cases c1 : 64 ≤ m
   ·have hx : walkI x.data d m = (m,31):=by rw [walkI_eq,if_pos c1]
    have HW:=Ld (walk_stop HT.out hx (by simp))
    clear hx
    go_wp2
    go_ret2
    exact ⟨ret_eq (by rw [HW.out];rfl),hBr.out⟩
   cases c2 : mayN x.k x.b x.n x.f x.t x.l.length with
   | false =>
     have hx : walkI x.data d m = (m,30):=by rw [walkI_eq,if_neg c1,c2];simp
     have HW:=Ld (walk_stop HT.out hx (by simp))
     clear hx
     go_wp2_with (go_at_call 122;go_must (refine (refMay_c x HX.out.hk _).mono ?_;rw [c2];rintro e w1 ⟨rfl,hb1⟩))
     go_ret2
     exact ⟨ret_eq (by rw [HW.out];rfl),hBr.out.trans (hb1.mono hBr.out.size)⟩
   | true =>
   have HREC:=Ld (fun W (hW : Below wr.heap.size wr W) (h3 : ¬ (x.k = 6 ∧ 8 ≤ d)) => HIH.out x.l x.A x.c (d + 1) (m + 1) W (by have:=HSX.out;have:=HS.out;omega) HX0.out.list
    (by have:=HD8.out;rcases this with h | h;omega;(rw [h] at hlt;simp at hlt)) (by by_cases h6 : x.k = 6;(left;omega);(right;exact mayN_list c2 h6)) (by omega) (HB0.out.trans (hW.mono HB0.out.size)))
   have HXX:=Ld (show (x.k = 6 ∧ 8 ≤ d → walkI x.data d m = (m,32)) ∧ (¬ (x.k = 6 ∧ 8 ≤ d) → walkI x.data d m = walkL (VI.dataL x.l) (d + 1) (m + 1)) from
    ⟨fun h => by rw [walkI_eq,if_neg c1,c2,if_neg (by simp),if_pos h],fun h => by rw [walkI_eq,if_neg c1,c2,if_neg (by simp),if_neg h]⟩)
   have e1 : ((d + 1 : Nat) : Int) = (d : Int) + 1:=by omega
   have e2 : ((m + 1 : Nat) : Int) = (m : Int) + 1:=by omega
   rw [e1,e2] at HREC
   clear e1 e2
   have ek : wrap64 x.k = x.k:=by have:=HX.out.hk;unfold wrap64;omega
   go_wp2_with (first
    | (go_at_call 122;go_must (refine (refMay_c x HX.out.hk _).mono ?_;rw [c2];rintro e w1 ⟨rfl,hb1⟩;obtain ⟨q0,q1⟩:=HIT.out _ hb1;have HB1:=Ld hb1;clear p0 p1 p2 p3 p4 p5 hb1))
    | (go_at_call 99;go_must (have HN3:=Ld (show ¬ (x.k = 6 ∧ 8 ≤ d) by omega);refine (HREC.out _ HB1.out HN3.out).mono ?_;rintro e w2 ⟨rfl,hb2⟩;have HB2:=Ld (HB1.out.trans (hb2.mono HB1.out.size));clear q0 q1 hb2)))
   ·have hI:=HXX.out.1 ⟨‹x.k = 6›,by have:=‹8 ≤ (d : Int)›;omega⟩
    have HW:=Ld (walk_stop HT.out hI (by simp))
    clear hI
    go_ret2
    exact ⟨ret_eq (by rw [HW.out];rfl),hBr.out.trans (HB1.out.mono hBr.out.size)⟩
   ·have hne:=int_pos ‹(((walkL (VI.dataL x.l) (d + 1) (m + 1)).2 : Int) != 0) = true›
    have hI:=HXX.out.2 HN3.out
    have HW:=Ld (walk_stop HT.out hI hne)
    go_ret2
    exact ⟨ret_eq (by rw [HW.out];rfl),hBr.out.trans (HB2.out.mono hBr.out.size)⟩
   ·have hne:=int_zero ‹(((walkL (VI.dataL x.l) (d + 1) (m + 1)).2 : Int) != 0) = false›
    have hI:=HXX.out.2 HN3.out
    have h64:=(walk_size w0 _ x.l (d + 1) (m + 1) (Nat.le_refl _) HX0.out.list.hx hne (by omega)).2.1
    exact ⟨⟨k + 1,_,by omega,by go_num,rfl,h64,Ld (by rw [HT.out,hI];exact Prod.ext rfl hne),Ld (hBr.out.trans (HB2.out.mono hBr.out.size))⟩,by simp [intOf];omega⟩
   ·have hne:=int_pos ‹(((walkL (VI.dataL x.l) (d + 1) (m + 1)).2 : Int) != 0) = true›
    have hI:=HXX.out.2 HN3.out
    have HW:=Ld (walk_stop HT.out hI hne)
    go_ret2
    exact ⟨ret_eq (by rw [HW.out];rfl),hBr.out.trans (HB2.out.mono hBr.out.size)⟩
   ·have hne:=int_zero ‹(((walkL (VI.dataL x.l) (d + 1) (m + 1)).2 : Int) != 0) = false›
    have hI:=HXX.out.2 HN3.out
    have h64:=(walk_size w0 _ x.l (d + 1) (m + 1) (Nat.le_refl _) HX0.out.list.hx hne (by omega)).2.1
    exact ⟨⟨k + 1,_,by omega,by go_num,rfl,h64,Ld (by rw [HT.out,hI];exact Prod.ext rfl hne),Ld (hBr.out.trans (HB2.out.mono hBr.out.size))⟩,by simp [intOf];omega⟩
  ·go_wp2
   go_ret2
   have e:=List.take_of_length_le (l:=VI.dataL l) (i:=k) (by rw [dataL_eq,List.length_map];omega)
   rw [e] at hw0
   exact ⟨ret_eq (by rw [hw0.out];rfl),hBr.out⟩
end
section
open Go.RowKit
set_option maxHeartbeats 1000000
set_option maxRecDepth 100000
def SizeEnd (s r : Nat) : Prop:=r ≤ s ∧ (s ≤ 4096 → r = s) ∧ (4096 < s → 4096 < r)
theorem sizeL_take_le (l : List ItemD) (k : Nat) : sizeL (l.take k) ≤ sizeL l:=by
 have:=sizeL_app (l.take k) (l.drop k)
 rw [List.take_append_drop] at this
 omega
def SizeAt (S j : Nat) : Prop:=j ≤ S ∧ (S ≤ 4096 → j = S) ∧ (4096 < S → 4096 < j)
theorem size_next {S S' m a z : Nat} (hj : Hid (SizeAt S m)) (c1 : ¬ 4096 < m) (hT : S' = S + z) (ha : SizeAt (m + z) (m + a)) : Hid (SizeAt S' (m + a)):=by
 obtain ⟨h1,h2,h3⟩:=hj.out
 have : S = m:=by
  by_cases h : S ≤ 4096
  ·exact (h2 h).symm
  ·exact absurd (h3 (by omega)) c1
 rw [hT,this]
 exact ha
theorem count_take (t : ByteArray) (p : Nat) (h : p < t.size) : Lib.countByte (t.data.toList.take (p + 1)) 0 = Lib.countByte (t.data.toList.take p) 0 + (if ((t[p].toNat : Int) == 0) = true then 1 else 0):=by
 have hl : p < t.data.toList.length:=by rw [Array.length_toList];exact h
 rw [← List.take_append_getElem hl]
 have e : t.data.toList[p] = t[p]:=rfl
 simp only [Lib.countByte,List.count_append,e,List.count_singleton]
 congr 1
 by_cases h0 : t[p] = 0
 ·simp [h0]
 ·have : ¬ t[p].toNat = 0:=fun h => h0 (UInt8.toNat_inj.1 h)
  simp [h0,this]
theorem count_take_le (t : ByteArray) (p : Nat) : Lib.countByte (t.data.toList.take p) 0 ≤ Lib.countByte t.data.toList 0:=by
 have h:=List.count_append (a:=(0 : UInt8)) (l₁:=t.data.toList.take p) (l₂:=t.data.toList.drop p)
 rw [List.take_append_drop] at h
 simp only [Lib.countByte]
 omega
theorem count_take_all (t : ByteArray) : Lib.countByte (t.data.toList.take t.size) 0 = Lib.countByte t.data.toList 0:=by
 rw [List.take_of_length_le (by rw [Array.length_toList];exact Nat.le_refl _)]
theorem size_same (m z : Nat) : SizeAt (m + z) (m + z):=⟨Nat.le_refl _,fun _ => rfl,fun h => h⟩
theorem refSize_c [Inhabited Thr] (w0 : World) : ∀ (s : Nat) (l : List VI) (A : Option Addr) (c : Nat) (w : World),SizeOf.sizeOf l ≤ s → RdI w0 A c l → Hid (sizeL (VI.dataL l) ≤ 1000000000000000000) → Below w0.heap.size w0 w →
 Calls Tryz.prog 100 #[.slice A l.length c] w fun e w' => ∃ r : Nat,e = .returned (.int .i64 r) ∧ SizeEnd (sizeL (VI.dataL l)) r ∧ Below w.heap.size w w':=by
 intro s
 induction s with
 | zero => intro l A c w hs;exfalso;cases l <;> simp at hs
 | succ s ih =>
 intro l A c w hs hR hz hB0
 have HIH:=Ld ih
 have HR:=Ld hR
 have HS:=Ld hs
 have hlen : l.length * 64 ≤ 140737488355328:=hR.hb
 have HB:=Ld hB0
 clear ih hR hs hB0
 go_enter Tryz.func100,Tryz.ntmps100
 go_wp2
 go_loopw [3,4] (fun m i wr => ∃ (k j : Nat),k ≤ l.length ∧ i = .int .i64 k ∧ m = .int .i64 j ∧ Hid (SizeAt (sizeL ((VI.dataL l).take k)) j) ∧ Hid (Below w.heap.size w wr)) (fun _ i _ => l.length - (intOf i).toNat)
 case atStart => exact ⟨0,0,Nat.zero_le _,rfl,rfl,by rw [List.take_zero,sizeL_nil];exact Ld ⟨Nat.le_refl _,fun _ => rfl,fun h => absurd h (by omega)⟩,Ld (Below.refl _ _)⟩
 case round =>
  obtain ⟨k,m,hk,rfl,rfl,hj,hBr⟩:=hrel
  have HB0:=Ld (HB.out.trans (hBr.out.mono HB.out.size))
  have HRr:=Ld (HR.out.below HB0.out)
  by_cases hlt : k < l.length
  ·by_cases c1 : 4096 < m
   ·go_wp2
    go_ret
    refine ⟨m,rfl,⟨Nat.le_trans hj.out.1 (sizeL_take_le _ _),fun h => ?_,fun _ => c1⟩,hBr.out⟩
    have:=hj.out.1;have:=sizeL_take_le (VI.dataL l) k;omega
   have hrd:=HRr.out.rd
   have hA : ∃ ab ao,A = some ⟨ab,ao,none⟩:=by obtain ⟨b,o,e,_⟩:=hrd.2 (by omega);exact ⟨b,o,e⟩
   obtain ⟨ab,ao,rfl⟩:=hA
   obtain ⟨p0,p1,p2,p3,p4,p5⟩:=item_at hrd hlt
   have HX:=Ld (HRr.out.hx _ (List.getElem_mem hlt))
   have HX0:=Ld (HR.out.hx _ (List.getElem_mem hlt))
   have HT:=Ld (size_at l k hlt)
   have HSX:=Ld (sz_at hlt)
   generalize l[k] = x at *
   clear hrd
   have ek : wrap64 x.k = x.k:=by have:=HX.out.hk;unfold wrap64;omega
   have hn8:=needN_le x.n.natAbs
   go_wp2_with (first
    | (go_at_call 124;go_must (refine (refFar_c x.n HX.out.hn _).mono ?_;rintro e w1 ⟨rfl,rfl⟩))
    | (go_at_call 123;go_must (refine (refNeed_c x.n.natAbs (by have:=HX.out.hn;omega) _).mono ?_;rintro e w1 ⟨rfl,rfl⟩)))
   ·have h3 : x.k = 3:=by simpa using ‹(x.k == 3) = true›
    have hz : sizeI x.data = 1 + needN x.n.natAbs:=by rw [sizeI_eq,h3,if_neg (by decide)];rfl
    refine ⟨⟨k + 1,m + (1 + needN x.n.natAbs),by omega,by go_num,by go_num,size_next hj c1 HT.out (by rw [hz];exact size_same _ _),Ld (hBr.out.alloc hBr.out.size _)⟩,by simp [intOf];omega⟩
   ·have h4 : x.k = 4:=by simpa using ‹(x.k == 4) = true›
    have hz : sizeI x.data = 9:=by rw [sizeI_eq,h4,if_neg (by decide)];rfl
    refine ⟨⟨k + 1,m + 9,by omega,by go_num,by go_num,size_next hj c1 HT.out (by rw [hz];exact size_same _ _),Ld (hBr.out.alloc hBr.out.size _)⟩,by simp [intOf];omega⟩
   ·have h5 : x.k = 5:=by simpa using ‹(x.k == 5) = true›
    have hz:=Ld (show sizeI x.data = 3 + x.t.size + Lib.countByte x.t.data.toList 0 by rw [sizeI_eq,h5,if_neg (by decide)];rfl)
    have hnb:=new_box wr #[.int .u8 x.k,.bool x.b,.int .i64 x.n,.float .f64 x.f,.string x.t,.slice x.A x.l.length x.c] 54
    generalize wr.alloc (.cells #[.int .u8 x.k,.bool x.b,.int .i64 x.n,.float .f64 x.f,.string x.t,.slice x.A x.l.length x.c] 54) = W0 at hnb ⊢
    obtain ⟨hB0,hlt0,hrow⟩:=hnb
    obtain ⟨q0,q1,q2,q3,q4,q5⟩:=cells6 hrow
    have HBW:=Ld (hBr.out.trans (hB0.mono hBr.out.size))
    have HXT:=Ld HX.out.ht
    clear h5 hrow hB0 p0 p1 p2 p3 p4 p5
    go_loop [3,6] (fun a i => ∃ (p : Nat),p ≤ x.t.size ∧ i = .int .i64 p ∧ a = .int .i64 ((m + (3 + p + Lib.countByte (x.t.data.toList.take p) 0) : Nat) : Int)) (fun _ i => x.t.size - (intOf i).toNat)
    case atStart => exact ⟨0,Nat.zero_le _,rfl,by simp [Lib.countByte];omega⟩
    case round =>
     obtain ⟨p,hp,rfl,rfl⟩:=hrel
     by_cases hpt : p < x.t.size
     ·have hct:=Ld (count_take x.t p hpt)
      go_wp2
      ·have h0:=‹((x.t[p].toNat : Int) == 0) = true›
       have hc:=hct.out
       rw [if_pos h0] at hc
       exact ⟨⟨p + 1,by omega,by go_num,by rw [hc];push_cast;go_num⟩,by simp [intOf];omega⟩
      ·have h0:=‹((x.t[p].toNat : Int) == 0) = false›
       have hc:=hct.out
       rw [if_neg (by rw [h0];simp)] at hc
       exact ⟨⟨p + 1,by omega,by go_num,by rw [hc];push_cast;go_num⟩,by simp [intOf];omega⟩
      ·have hle:=count_take_le x.t p
       refine ⟨⟨k + 1,_,by omega,by go_num,rfl,size_next hj c1 HT.out ?_,HBW⟩,by simp [intOf];omega⟩
       rw [hz.out]
       refine ⟨by omega,fun h => ?_,fun _ => by omega⟩
       exfalso;omega
     ·have hpe : p = x.t.size:=by omega
      subst hpe
      have hct:=Ld (count_take_all x.t)
      go_wp2
      all_goals
       refine ⟨⟨k + 1,_,by omega,by go_num,rfl,size_next hj c1 HT.out ?_,HBW⟩,by simp [intOf];omega⟩
       rw [hz.out,hct.out]
       exact size_same _ _
   ·have h6 : x.k = 6:=by simpa using ‹(x.k == 6) = true›
    have hz6:=Ld (show sizeI x.data = 2 + sizeL (VI.dataL x.l) by rw [sizeI_eq,h6,if_pos rfl];rfl)
    clear h6
    have hzl:=Ld (show sizeL (VI.dataL x.l) ≤ 1000000000000000000 by
     have:=sizeL_take_le (VI.dataL l) (k + 1)
     have:=HT.out;have:=hz6.out;have:=hz.out;omega)
    have HBA:=Ld (hBr.out.alloc hBr.out.size (.cells #[.int .u8 x.k,.bool x.b,.int .i64 x.n,.float .f64 x.f,.string x.t,.slice x.A x.l.length x.c] 54))
    have HBB:=Ld (HB0.out.alloc HB0.out.size (.cells #[.int .u8 x.k,.bool x.b,.int .i64 x.n,.float .f64 x.f,.string x.t,.slice x.A x.l.length x.c] 54))
    refine (HIH.out x.l x.A x.c _ (by have:=HSX.out;have:=HS.out;omega) HX0.out.list hzl HBB.out).mono ?_
    rintro e w1 ⟨r,rfl,hr,hb1⟩
    have HRR:=Ld hr
    have HB1:=Ld (HBA.out.trans (hb1.mono HBA.out.size))
    have w1' : IntKind.i64.wrap (1 + (r : Int)) = 1 + r:=IntWalk.i64_in _ (by have:=hr.1;have:=hzl.out;omega)
    have w2' : IntKind.i64.wrap ((m : Int) + 1 + (1 + (r : Int))) = m + 1 + (1 + r):=IntWalk.i64_in _ (by have:=hr.1;have:=hzl.out;omega)
    clear hr hb1
    go_wp2
    refine ⟨⟨k + 1,m + (2 + r),by omega,by go_num,by go_num,size_next hj c1 HT.out ?_,HB1⟩,by simp [intOf];omega⟩
    rw [hz6.out]
    obtain ⟨r1,r2,r3⟩:=HRR.out
    refine ⟨by omega,fun h => ?_,fun h => ?_⟩
    ·rw [r2 (by omega)]
    ·by_cases h4 : sizeL (VI.dataL x.l) ≤ 4096
     ·rw [r2 h4];exact h
     ·have:=r3 (by omega);omega
   ·have h3 : ¬ x.k = 3:=by simpa using ‹(x.k == 3) = false›
    have h4 : ¬ x.k = 4:=by simpa using ‹(x.k == 4) = false›
    have h5 : ¬ x.k = 5:=by simpa using ‹(x.k == 5) = false›
    have h6 : ¬ x.k = 6:=by simpa using ‹(x.k == 6) = false›
    have hz : sizeI x.data = 1:=by rw [sizeI_eq,if_neg h6];simp [lenN,h3,h4,h5,h6]
    refine ⟨⟨k + 1,m + 1,by omega,by go_num,by go_num,size_next hj c1 HT.out (by rw [hz];exact size_same _ _),Ld (hBr.out.alloc hBr.out.size _)⟩,by simp [intOf];omega⟩
  ·go_wp2
   go_ret
   have e:=List.take_of_length_le (l:=VI.dataL l) (i:=k) (by rw [dataL_eq,List.length_map];omega)
   rw [e] at hj
   exact ⟨m,rfl,hj.out,hBr.out⟩
end
section
open Go.RowKit
set_option maxHeartbeats 1000000
set_option maxRecDepth 100000
theorem SizeEnd.gt {s r : Nat} (h : SizeEnd s r) (hr : 4096 < r) : 4096 < s:=by have:=h.1;omega
theorem SizeEnd.le {s r : Nat} (h : SizeEnd s r) (hr : r ≤ 4096) : ¬ 4096 < s:=fun h1 => by have:=h.2.2 h1;omega
theorem refCheck_c [Inhabited Thr] (A : Option Addr) (c : Nat) (l : List VI) (w : World) (hR : RdI w A c l) :
 Calls Tryz.prog 64 #[.slice A l.length c] w fun e w' => e = .returned (.int .i64 (chkL (VI.dataL l))) ∧ Below w.heap.size w w':=by
 have HW:=Ld (refWalk_c w _ l A c 0 0 w (Nat.le_refl _) hR (by decide) (.inl (by decide)) (by decide) (Below.refl _ _))
 have HR:=Ld hR
 have HS:=Ld (fun (h : (walkL (VI.dataL l) 0 0).2 = 0) W (hW : Below w.heap.size w W) => refSize_c w _ l A c W (Nat.le_refl _) hR (Ld (by
  have:=(walk_size w _ l 0 0 (Nat.le_refl _) hR.hx h (by decide)).2;omega)) hW)
 clear hR
 go_enter Tryz.func64,Tryz.ntmps64
 by_cases h0 : (walkL (VI.dataL l) 0 0).2 = 0
 ·have H0:=Ld h0
  have hc0 : ((walkL (VI.dataL l) 0 0).2 : Int) = 0:=by omega
  have HCH:=Ld (show chkL (VI.dataL l) = if 4096 < sizeL (VI.dataL l) then 4 else 0 by rw [chkL,if_neg (by simp [h0])])
  clear h0
  go_wp2_with (first
   | (go_at_call 99;go_must (refine HW.out.mono ?_;rintro e w1 ⟨rfl,hb1⟩;have HB1:=Ld hb1;clear hb1))
   | (go_at_call 100;go_must (refine (HS.out H0.out _ HB1.out).mono ?_;rintro e w2 ⟨r,rfl,hr,hb2⟩;have HRR:=Ld hr;have HB2:=Ld (HB1.out.trans (hb2.mono HB1.out.size));clear hb2 hr)))
  ·go_ret
   exact ⟨ret_eq (congrArg (fun n : Nat => Value.int .i64 n) (show 4 = _ by rw [HCH.out,if_pos (SizeEnd.gt HRR.out (by have:=‹(4096 : Int) < r›;omega))])),HB2.out⟩
  ·go_ret
   exact ⟨ret_eq (congrArg (fun n : Nat => Value.int .i64 n) (show 0 = _ by rw [HCH.out,if_neg (SizeEnd.le HRR.out (by have:=‹(r : Int) ≤ 4096›;omega))])),HB2.out⟩
 ·have hc0 : ((walkL (VI.dataL l) 0 0).2 : Int) ≠ 0:=by omega
  have HCH:=Ld (show chkL (VI.dataL l) = (walkL (VI.dataL l) 0 0).2 by rw [chkL,if_pos h0])
  clear h0
  go_wp2_with (first
   | (go_at_call 99;go_must (refine HW.out.mono ?_;rintro e w1 ⟨rfl,hb1⟩;have HB1:=Ld hb1;clear hb1)))
  go_ret
  exact ⟨ret_eq (congrArg (fun n : Nat => Value.int .i64 n) (show _ = _ by rw [HCH.out])),HB1.out⟩
end
end Go.Proofs.YtonjgedhmmnolaaGreatDoor
