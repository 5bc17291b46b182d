import Derived.Test.YtonjgedhmmnolaaGreatDoorZ3
import Derived.Lib.AppendStr
import Derived.Lib.Replace
import Derived.Lib.Zigzag
namespace Go.Proofs.YtonjgedhmmnolaaGreatDoor
section
open Go.RowKit
set_option maxHeartbeats 1000000
set_option maxRecDepth 100000
theorem infoB : (Tryz.prog.info? 5).map (fun i => (i.zero,i.size,i.bytes)) = some (some (.int .u8 0),1,1):=by kernel_rfl
def bts (l : List UInt8) : List Value:=l.map fun c => .int .u8 c.toNat
theorem bts_len (l : List UInt8) : (bts l).length = l.length:=by simp [bts]
theorem bts_app (a b : List UInt8) : bts (a ++ b) = bts a ++ bts b:=by simp [bts]
theorem bts_one (l : List UInt8) : ∀ u ∈ bts l,u.oneCell' = true:=by
 intro u hu
 simp only [bts,List.mem_map] at hu
 obtain ⟨c,_,rfl⟩:=hu
 rfl
def OwnB (w : World) (B : Nat) (v : Value) (bs : List UInt8) : Prop:=w.ownsRow B 5 1 v bs.length (bts bs)
structure AppEnd (w : World) (B : Nat) (v : Value) (bs : List UInt8) (v' : Value) (w' : World) : Prop where
 own : OwnB w' B v' bs
 kept : Kept (fun k => v.ownBlock = some k) w w'
 blk : ∀ k,v'.ownBlock = some k → v.ownBlock = some k ∨ w.heap.size ≤ k
section
variable {w w1 w2 : World} {B : Nat} {v v1 v2 : Value} {bs bs1 bs2 : List UInt8}
theorem AppEnd.refl (h : OwnB w B v bs) : AppEnd w B v bs v w:=⟨h,.refl _ _,fun k hk => .inl hk⟩
theorem AppEnd.trans (h : AppEnd w B v bs1 v1 w1) (k : AppEnd w1 B v1 bs2 v2 w2) : AppEnd w B v bs2 v2 w2 :=
 ⟨k.own,⟨k.kept.os.trans h.kept.os,k.kept.tape.trans h.kept.tape,k.kept.output.trans h.kept.output,Nat.le_trans h.kept.size k.kept.size,fun i hi hs => (k.kept.block i (Nat.lt_of_lt_of_le hi h.kept.size) (fun e => by
   rcases h.blk i e with e | e
   ·exact hs e
   ·omega)).trans (h.kept.block i hi hs)⟩,fun i hi => by
   rcases k.blk i hi with e | e
   ·exact h.blk i e
   ·exact .inr (Nat.le_trans h.kept.size e)⟩
theorem AppEnd.step (h : AppEnd w B v bs1 v1 w1) (hb : Below w1.heap.size w1 w2) : AppEnd w B v bs1 v1 w2:=⟨own_below h.own hb,h.kept.step hb,h.blk⟩
theorem AppEnd.below (h : AppEnd w B v bs1 v1 w1) {b : Nat} (hb : b ≤ w.heap.size) (hv : ∀ k,v.ownBlock = some k → b ≤ k) : Below b w w1 :=
 h.kept.below hb (fun k hk e => by have:=hv k e;omega)
theorem AppEnd.put (ho : OwnB w B v bs) {n m : Nat} {news : List UInt8} (h2 : w1.ownsRow B 5 1 v1 (n + m) (bts bs ++ bts news)) (hn : n = bs.length) (hm : m = news.length) (h3 : w.grownBy w1 v.ownBlock) (h4 : v1.ownBlock = v.ownBlock ∨ v1.ownBlock = some w.heap.size) :
 AppEnd w B v (bs ++ news) v1 w1:=by
 subst hn hm
 refine ⟨by unfold OwnB;rw [List.length_append,bts_app];exact h2,(Kept.refl _ w).grown h3 (fun k hk _ => hk),fun k hk => ?_⟩
 rcases h4 with e | e
 ·exact .inl (e ▸ hk)
 ·rw [e] at hk;cases hk;exact .inr (Nat.le_refl _)
theorem OwnB.ge (h : OwnB w B v bs) : ∀ k,v.ownBlock = some k → B ≤ k:=fun k hk => (h.lt k hk).1
theorem OwnB.below (h : OwnB w B v bs) (hb : Below w.heap.size w w1) : OwnB w1 B v bs:=own_below h hb
theorem OwnB.nil (w : World) (B : Nat) : OwnB w B (.slice none 0 0) []:=World.ownsRow_nil _ _ _ _
end
theorem rd_new (w : World) (xs : List Value) (t : TypeId) (h : xs ≠ []) : Rd (w.alloc (.cells xs.toArray t)) 1 (some ⟨w.heap.size,0,none⟩) xs.length xs:=by
 refine ⟨by simp,fun _ => ⟨w.heap.size,0,rfl,fun j u hu => ?_⟩⟩
 have hrow : (w.alloc (.cells xs.toArray t)).heap[w.heap.size]? = some (.cells xs.toArray t (0,0)):=one_row (Below.refl _ _)
 rw [Nat.zero_add]
 exact cell_of_row _ _ j _ _ _ hrow |>.trans (by simpa using hu)
theorem wp_put {w wr : World} {B : Nat} {v b : Value} {bs news : List UInt8} {o : Oper} {a : Act} {K : Act → World → Prop} {Q : Exit → Act → World → Prop} (s x : Operand)
 (ho : o.op = .call { callee:=.builtin .append,args:=#[s,x],argTypes:=#[35,35] }) (hA : AppEnd w B v bs b wr) (hs : a.eval s = b) (cs : Array Value) (hcs : cs = (bts news).toArray)
 {m g : Nat} (hg : g = wr.heap.size) (hx : a.eval x = .slice (some ⟨g,0,none⟩) m m) (hm : m = news.length) (h0 : news ≠ []) (hl : bs.length + m ≤ 140737488355328) (hB : B ≤ wr.heap.size)
 (h : ∀ v' w',AppEnd w B v (bs ++ news) v' w' → K (a.put o.dst v') w') : o.wp Tryz.prog a (wr.alloc (.cells cs 5)) K Q:=by
 obtain ⟨i0,hi,hz0,hz1,hz2⟩:=info_parts infoB
 subst hcs
 subst hg
 have hst:=hA.step ((Below.refl wr.heap.size wr).alloc (Nat.le_refl _) (.cells (bts news).toArray 5))
 have hr:=rd_new wr (bts news) 5 (by cases news with | nil => exact absurd rfl h0 | cons c l => simp [bts])
 rw [bts_len,← hm] at hr
 refine wp_append_rd s x 35 ho B 5 Tryz.underlying35 hi hz0 hz1 hz2 rfl (by decide) hs hst.own hx hr (bts_one _) (by omega) (by decide) (by simp;omega) ?_
 intro v' w' h2 h3 h4
 exact h v' w' (hst.trans (.put hst.own h2 rfl hm h3 h4.1))
theorem wpList_put {w wr : World} {B : Nat} {v b : Value} {bs news : List UInt8} {ops : Array Oper} {rest : List Oper} {o : Oper} {a : Act} {Q : Exit → Act → World → Prop} (hgd : o.guard = none) (s x : Operand)
 (ho : o.op = .call { callee:=.builtin .append,args:=#[s,x],argTypes:=#[35,35] }) (hA : AppEnd w B v bs b wr) (hs : a.eval s = b) (cs : Array Value) (hcs : cs = (bts news).toArray)
 {m g : Nat} (hg : g = wr.heap.size) (hx : a.eval x = .slice (some ⟨g,0,none⟩) m m) (hm : m = news.length) (h0 : news ≠ []) (hl : bs.length + m ≤ 140737488355328) (hB : B ≤ wr.heap.size)
 (h : ∀ v' w',AppEnd w B v (bs ++ news) v' w' → wpList Tryz.prog ops Q rest (a.put o.dst v') w') : wpList Tryz.prog ops Q (o :: rest) a (wr.alloc (.cells cs 5)) :=
 wpList_plain hgd fun _ hK => wp_put s x ho hA hs cs hcs hg hx hm h0 hl hB fun v' w' hh => hK _ _ (h v' w' hh)
def bigB (u : Nat) : Nat → List UInt8
 | 0 => []
 | n + 1 => UInt8.ofNat (u / 256 ^ n) :: bigB u n
theorem bigB_len (u n : Nat) : (bigB u n).length = n:=by induction n with
 | zero => rfl
 | succ n ih => simp [bigB,ih]
theorem big_val (u j : Nat) : #[Value.int .u8 ((u : Int) / 2 ^ (8 * j) % 256)] = (bts [UInt8.ofNat (u / 256 ^ j)]).toArray:=by
 have e : ((u : Int) / 2 ^ (8 * j) % 256) = ((u / 256 ^ j % 256 : Nat) : Int):=by
  have : (256 : Nat) ^ j = 2 ^ (8 * j):=by rw [Nat.pow_mul]
  rw [this];push_cast;rfl
 rw [e]
 simp [bts]
theorem big_c (B : Nat) (v : Value) (bs : List UInt8) (u n : Nat) (w : World) (hu : u < 18446744073709551616) (hn : n ≤ 8) (ho : OwnB w B v bs) (hB : B ≤ w.heap.size) (hl : bs.length ≤ 100000000000000) :
 Calls Tryz.prog 117 #[v,.int .u64 u,.int .i64 n] w fun e w' => ∃ v',e = .returned v' ∧ AppEnd w B v (bs ++ bigB u n) v' w':=by
 obtain ⟨i0,hi,hz0,hz1,hz2⟩:=info_parts infoB
 have HO:=Ld ho
 have HL:=Ld hl
 clear ho hl
 go_enter Tryz.func117,Tryz.ntmps117
 go_wp2
 go_loopw [0,7] (fun b i wr => ∃ (j : Nat) (bs' : List UInt8),j ≤ n ∧ i = .int .i64 ((j : Int) - 1) ∧ Hid (bs' ++ bigB u j = bs ++ bigB u n) ∧ Hid (AppEnd w B v bs' b wr)) (fun _ i _ => (intOf i + 1).toNat)
 case atStart => exact ⟨n,bs,Nat.le_refl _,rfl,rfl,.refl HO.out⟩
 case round =>
  obtain ⟨j,bs',hj,rfl,heq,hA⟩:=hrel
  cases j with
  | zero =>
    go_wp2
    go_ret
    have:=heq.out
    simp only [bigB,List.append_nil] at this
    exact ⟨_,rfl,this ▸ hA.out⟩
  | succ j =>
    have hval:=Ld (big_val u j)
    have hlen:=Ld (show bs'.length + 1 ≤ 140737488355328 by
     have:=congrArg List.length heq.out
     simp only [List.length_append,bigB_len] at this
     have:=HL.out;omega)
    have hsz:=Ld (show B ≤ wr.heap.size from Nat.le_trans hB hA.out.kept.size)
    go_wp2_with (at_builtin;go_must (refine wpList_put rfl (.tmp 14) (.tmp 20) rfl hA.out rfl _ hval.out rfl rfl rfl (by simp) hlen.out hsz.out ?_;intro v2 w2 hA2;have HA2:=Ld hA2;clear hA2))
    refine ⟨⟨j,_,by omega,rfl,?_,HA2⟩,by simp [intOf]⟩
    have:=heq.out
    simp only [bigB] at this
    exact Ld (by rw [← this];simp)
end
section
open Go.RowKit
set_option maxHeartbeats 1000000
set_option maxRecDepth 100000
theorem strCells_bts (s : ByteArray) : Lib.strCells s = bts s.data.toList:=by
 simp [Lib.strCells,bts]
theorem run_string_blk {w : World} {B : Nat} {v : Value} {n : Nat} {xs : List Value} {ty : TypeId} (hown : w.ownsRow B 5 1 v n xs) (s : ByteArray) (hbytes : n + s.size ≤ 140737488355328) {v' : Value} {w' : World}
 (hr : (Builtin.append_ #[35,9] ty #[v,.string s]).run Tryz.prog w = .ok v' w') : ∀ k,v'.ownBlock = some k → v.ownBlock = some k ∨ w.heap.size ≤ k:=by
 obtain ⟨i0,hi,hz0,hz1,hz2⟩:=info_parts infoB
 intro k hk
 rcases hown.2 with ⟨rfl,rfl⟩ | ⟨g,cap,cur,rfl,hbg,hg,hnc,hcm,hcs,htake⟩
 ·have hx : xs = []:=List.eq_nil_of_length_eq_zero (by simpa using hown.1)
  subst hx
  obtain ⟨v2,w2,h1,h2,_,_⟩:=Lib.run_append_own_string (P:=Tryz.prog) (w:=w) w.heap.size 35 9 ty 5 i0 Tryz.underlying35 Tryz.underlying9 hi hz0 hz1 hz2 (.slice none 0 0) 0 [] (World.ownsRow_nil _ _ _ _) s (by unfold maxLen;omega) hbytes (Nat.le_refl _)
  rw [hr] at h1
  cases h1
  exact .inr (h2.lt k hk).1
 ·by_cases hroom : n + s.size ≤ cap
  ·have hcs' : cur.size = cap:=by simpa using hcs
   have:=Lib.run_append_room_string (P:=Tryz.prog) (w:=w) 35 9 ty 5 i0 Tryz.underlying35 Tryz.underlying9 hi hz1 g n cap cur hg s hroom (by omega)
   rw [hr] at this
   cases this
   exact .inl hk
  ·have holds : ∀ j u,xs[j]? = some u → w.cell? ((⟨g,0,none⟩ : Addr).add j) = some u:=hown.cells (g:=g) rfl
   have:=Lib.run_append_grow_string (P:=Tryz.prog) (w:=w) 35 9 ty 5 i0 (.int .u8 0) Tryz.underlying35 Tryz.underlying9 hi hz0 ⟨g,0,none⟩ n cap xs (by rw [hz1];simpa using hown.1) holds s (by omega) (by omega) (by rw [hz2];exact growslice_fits (by omega) (by omega))
   rw [hr] at this
   cases this
   right
   simp only [Value.ownBlock,Option.some.injEq] at hk
   omega
theorem wpList_str {w wr : World} {B : Nat} {v b : Value} {bs : List UInt8} {ops : Array Oper} {rest : List Oper} {o : Oper} {a : Act} {Q : Exit → Act → World → Prop} (hgd : o.guard = none) (s x : Operand)
 (ho : o.op = .call { callee:=.builtin .append,args:=#[s,x],argTypes:=#[35,9] }) (hA : AppEnd w B v bs b wr) (hs : a.eval s = b) {t : ByteArray} (hx : a.eval x = .string t)
 (hl : bs.length + t.size ≤ 140737488355328) (hB : B ≤ wr.heap.size)
 (h : ∀ v' w',AppEnd w B v (bs ++ t.data.toList) v' w' → wpList Tryz.prog ops Q rest (a.put o.dst v') w') : wpList Tryz.prog ops Q (o :: rest) a wr:=by
 obtain ⟨i0,hi,hz0,hz1,hz2⟩:=info_parts infoB
 obtain ⟨v',w',hr,h2,h3,_⟩:=Lib.run_append_own_string (P:=Tryz.prog) (w:=wr) B 35 9 o.type 5 i0 Tryz.underlying35 Tryz.underlying9 hi hz0 hz1 hz2 b bs.length (bts bs) hA.own t (by unfold maxLen;omega) hl hB
 have hb:=run_string_blk hA.own t hl hr
 refine wpList_plain hgd fun K hK => ?_
 unfold Oper.wp execOp
 simp only [ho,resolve,invoke,builtin,Sem.run_bind,Sem.run_pure,Result.andThen_ok,List.map_toArray,List.map_cons,List.map_nil,hs,hx,hr]
 refine hK _ _ (h v' w' (hA.trans ⟨?_,(Kept.refl _ wr).grown h3 (fun k hk _ => hk),hb⟩))
 have e : t.size = t.data.toList.length:=by rw [Array.length_toList];rfl
 unfold OwnB
 rw [List.length_append,bts_app,← strCells_bts,← e]
 exact h2
def esc (l : List UInt8) : List UInt8:=l.flatMap fun c => if c = 0 then [0,255] else [c]
theorem esc_cons (c : UInt8) (l : List UInt8) : esc (c :: l) = (if c = 0 then [0,255] else [c]) ++ esc l:=rfl
theorem esc_len (l : List UInt8) : (esc l).length = l.length + Lib.countByte l 0:=by
 induction l with
 | nil => rfl
 | cons c l ih =>
   rw [esc_cons,List.length_append,ih]
   simp only [Lib.countByte,List.count_cons,List.length_cons]
   by_cases h : c = 0
   ·simp [h];omega
   ·simp [h];omega
mutual
def packI : ItemD → List UInt8
 | .mk k b n f t l =>
   if k = 1 then [1] else if k = 2 then [if b then 3 else 2]
   else if k = 3 then (if n < 0 then UInt8.ofNat (20 - needN n.natAbs) :: bigB ((n - 1) % 18446744073709551616).toNat (needN n.natAbs) else UInt8.ofNat (20 + needN n.natAbs) :: bigB n.toNat (needN n.natAbs))
   else if k = 4 then 32 :: bigB (keyF f).toNat 8 else if k = 5 then 36 :: (esc t.data.toList ++ [0,1]) else if k = 6 then 40 :: (packL l ++ [0]) else []
def packL : List ItemD → List UInt8
 | [] => []
 | x :: l => packI x ++ packL l
end
mutual
def okI : ItemD → Bool
 | .mk k b n f t l => mayN k b n f t l.length && okL l
def okL : List ItemD → Bool
 | [] => true
 | x :: l => okI x && okL l
end
theorem okL_nil : okL [] = true:=by rw [okL]
theorem okL_cons (x : ItemD) (l : List ItemD) : okL (x :: l) = (okI x && okL l):=by rw [okL]
theorem packL_nil : packL [] = []:=by rw [packL]
theorem packL_cons (x : ItemD) (l : List ItemD) : packL (x :: l) = packI x ++ packL l:=by rw [packL]
theorem packL_app : ∀ a b : List ItemD,packL (a ++ b) = packL a ++ packL b
 | [],b => by rw [packL_nil];rfl
 | x :: a,b => by rw [List.cons_append,packL_cons,packL_cons,packL_app a b,List.append_assoc]
theorem okI_eq (x : VI) : okI x.data = (mayN x.k x.b x.n x.f x.t x.l.length && okL (VI.dataL x.l)):=by
 cases x with | mk k b n f t A c l => simp only [VI.data,okI,VI.k,VI.b,VI.n,VI.f,VI.t,VI.l,dataL_eq,List.length_map]
theorem packL_take (l : List VI) (k : Nat) (h : k < l.length) : packL ((VI.dataL l).take (k + 1)) = packL ((VI.dataL l).take k) ++ packI l[k].data:=by
 have hl : k < (VI.dataL l).length:=by rw [dataL_eq,List.length_map];exact h
 rw [← List.take_append_getElem hl,packL_app,data_at,packL_cons,packL_nil,List.append_nil]
theorem okL_get : ∀ (l : List VI) (k : Nat) (h : k < l.length),okL (VI.dataL l) = true → okI l[k].data = true
 | x :: l,0,_,h => by rw [VI.dataL,okL_cons,Bool.and_eq_true] at h;exact h.1
 | x :: l,k + 1,hk,h => by
   rw [VI.dataL,okL_cons,Bool.and_eq_true] at h
   exact okL_get l k (by simpa using hk) h.2
end
section
set_option maxRecDepth 100000
theorem index_zero (l : List UInt8) : Lib.index (0 :: l) [0] = 0:=by simp [Lib.index]
theorem index_other {c : UInt8} (l : List UInt8) (h : c ≠ 0) : Lib.index (c :: l) [0] = if Lib.index l [0] == -1 then -1 else Lib.index l [0] + 1:=by
 have : ¬ (0 : UInt8) = c:=fun e => h e.symm
 simp [Lib.index,this]
theorem replaceK_other (k : Nat) {c : UInt8} (l : List UInt8) (h : c ≠ 0) : Lib.replaceK [0] [0,255] k (c :: l) = c :: Lib.replaceK [0] [0,255] k l:=by
 cases k with
 | zero => rfl
 | succ k =>
   rw [Lib.replaceK,Lib.replaceK,index_other l h]
   by_cases hm : Lib.index l [0] = -1
   ·simp [hm]
   ·have hge:=Lib.index_ge l [0]
    have h1 : (Lib.index l [0] == -1) = false:=by simpa using hm
    have h2 : (Lib.index l [0] + 1 == -1) = false:=by simp;omega
    have h3 : (Lib.index l [0] + 1).toNat = (Lib.index l [0]).toNat + 1:=by omega
    simp [h1,h2,h3]
theorem replaceK_esc : ∀ l : List UInt8,Lib.replaceK [0] [0,255] (Lib.count l [0]) l = esc l
 | [] => by rfl
 | c :: l => by
   by_cases h : c = 0
   ·subst h
    rw [Lib.count_cons_eq,Nat.add_comm,Lib.replaceK,index_zero,esc_cons]
    have:=replaceK_esc l
    simpa using this
   ·rw [Lib.count_cons_ne c 0 l h,replaceK_other _ l h,replaceK_esc l,esc_cons]
    simp [h]
theorem replaceAll_esc (l : List UInt8) : Lib.replaceAll l [0] [0,255] = esc l:=by
 rw [Lib.replaceAll,Lib.replace,if_neg (by decide),Lib.replaceNum,if_pos (by left;decide),replaceK_esc]
theorem packI_eq (x : VI) : packI x.data = if x.k = 1 then [1] else if x.k = 2 then [if x.b then 3 else 2]
 else if x.k = 3 then (if x.n < 0 then UInt8.ofNat (20 - needN x.n.natAbs) :: bigB ((x.n - 1) % 18446744073709551616).toNat (needN x.n.natAbs) else UInt8.ofNat (20 + needN x.n.natAbs) :: bigB x.n.toNat (needN x.n.natAbs))
 else if x.k = 4 then 32 :: bigB (keyF x.f).toNat 8 else if x.k = 5 then 36 :: (esc x.t.data.toList ++ [0,1]) else if x.k = 6 then 40 :: (packL (VI.dataL x.l) ++ [0]) else []:=by
 cases x with | mk k b n f t A c l =>
 simp only [VI.data,packI,VI.k,VI.b,VI.n,VI.f,VI.t,VI.l]
 by_cases h1 : k = 1
 ·simp [h1]
 by_cases h2 : k = 2
 ·cases b <;> simp [h2]
 by_cases h3 : k = 3
 ·simp only [h3];by_cases hn : n < 0 <;> simp [hn]
 by_cases h4 : k = 4
 ·simp [h4]
 by_cases h5 : k = 5
 ·simp [h5]
 by_cases h6 : k = 6
 ·simp [h6]
 simp [h1,h2,h3,h4,h5,h6]
theorem pack_len : ∀ (s : Nat) (l : List VI),SizeOf.sizeOf l ≤ s → okL (VI.dataL l) = true → (packL (VI.dataL l)).length = sizeL (VI.dataL l):=by
 intro s
 induction s with
 | zero => intro l hs;exfalso;cases l <;> simp at hs
 | succ s ih =>
 intro l
 induction l with
 | nil => intro _ _;rw [VI.dataL,packL_nil,sizeL_nil];rfl
 | cons x l ihl =>
   intro hs h
   have hsx : SizeOf.sizeOf x.l < SizeOf.sizeOf (x :: l):=Nat.lt_trans (sz_list x) (sz_lt List.mem_cons_self)
   have hsl : SizeOf.sizeOf l < SizeOf.sizeOf (x :: l):=by simp;omega
   rw [VI.dataL,okL_cons,okI_eq,Bool.and_eq_true,Bool.and_eq_true] at h
   rw [VI.dataL,packL_cons,List.length_append,sizeL,ihl (by omega) h.2]
   congr 1
   have hx:=ih x.l (by omega) h.1.2
   have hm:=h.1.1
   have hkk : 1 ≤ x.k ∧ x.k ≤ 6:=by
    simp only [mayN,Bool.and_eq_true,decide_eq_true_eq] at hm
    exact hm.1
   rw [packI_eq,sizeI_eq,lenN]
   have hk : x.k = 1 ∨ x.k = 2 ∨ x.k = 3 ∨ x.k = 4 ∨ x.k = 5 ∨ x.k = 6:=by omega
   rcases hk with h | h | h | h | h | h
   ·simp [h]
   ·simp [h]
   ·simp only [h]
    by_cases hn : x.n < 0
    ·simp [hn,bigB_len];omega
    ·simp [hn,bigB_len];omega
   ·simp [h,bigB_len]
   ·simp [h,esc_len];omega
   ·simp [h,hx];omega
theorem walk_ok : ∀ (s : Nat) (l : List VI) (d n : Nat),SizeOf.sizeOf l ≤ s → (walkL (VI.dataL l) d n).2 = 0 → okL (VI.dataL l) = true:=by
 intro s
 induction s with
 | zero => intro l d n hs;exfalso;cases l <;> simp at hs
 | succ s ih =>
 intro l
 induction l with
 | nil => intro d n _ _;rw [VI.dataL,okL_nil]
 | cons x l ihl =>
   intro d n hs h0
   have hsx : SizeOf.sizeOf x.l < SizeOf.sizeOf (x :: l):=Nat.lt_trans (sz_list x) (sz_lt List.mem_cons_self)
   have hsl : SizeOf.sizeOf l < SizeOf.sizeOf (x :: l):=by simp;omega
   rw [VI.dataL,walkL_cons] at h0
   rw [VI.dataL,okL_cons,okI_eq]
   by_cases h1 : (walkI x.data d n).2 = 0
   ·rw [if_pos h1] at h0
    rw [walkI_eq] at h1 h0
    by_cases c1 : 64 ≤ n
    ·rw [if_pos c1] at h1;simp at h1
    rw [if_neg c1] at h1 h0
    by_cases c2 : mayN x.k x.b x.n x.f x.t x.l.length = true
    ·rw [c2] at h1 h0
     rw [if_neg (by simp)] at h1 h0
     by_cases c3 : x.k = 6 ∧ 8 ≤ d
     ·rw [if_pos c3] at h1;simp at h1
     rw [if_neg c3] at h1 h0
     rw [c2,ih x.l (d + 1) (n + 1) (by omega) h1,ihl d _ (by omega) h0]
     rfl
    ·have c2 : mayN x.k x.b x.n x.f x.t x.l.length = false:=by simpa using c2
     rw [c2] at h1;simp at h1
   ·rw [if_neg h1] at h0;exact absurd h0 h1
theorem chk_ok (l : List VI) (h : chkL (VI.dataL l) = 0) : okL (VI.dataL l) = true ∧ sizeL (VI.dataL l) ≤ 4096 ∧ (walkL (VI.dataL l) 0 0).2 = 0:=by
 unfold chkL at h
 by_cases h0 : (walkL (VI.dataL l) 0 0).2 = 0
 ·rw [if_neg (by simp [h0])] at h
  by_cases h4 : 4096 < sizeL (VI.dataL l)
  ·rw [if_pos h4] at h;simp at h
  ·exact ⟨walk_ok _ l 0 0 (Nat.le_refl _) h0,by omega,h0⟩
 ·rw [if_pos h0] at h;exact absurd h h0
end
section
open Go.RowKit
set_option maxHeartbeats 1000000
set_option maxRecDepth 100000
theorem xor_top (x : Nat) (h : x < 2 ^ 63) : x ^^^ 2 ^ 63 = x + 2 ^ 63:=by
 have h2:=Nat.two_pow_add_eq_or_of_lt (i:=63) (b:=x) h 1
 rw [Nat.mul_one] at h2
 rw [Nat.add_comm,h2]
 apply Nat.eq_of_testBit_eq
 intro i
 rw [Nat.testBit_xor,Nat.testBit_or,Nat.testBit_two_pow]
 by_cases hi : 63 = i
 ·subst hi;rw [Nat.testBit_lt_two_pow h];simp
 ·simp [hi]
def keyU (f : Nat) : Nat:=if 2 ^ 63 ≤ bitsF f then 2 ^ 64 - 1 - bitsF f else bitsF f + 2 ^ 63
theorem bitsF_lt {f : Nat} (h : f < 18446744073709551616) : bitsF f < 18446744073709551616:=by unfold bitsF;split <;> omega
theorem keyU_lt {f : Nat} (h : f < 18446744073709551616) : keyU f < 18446744073709551616:=by have:=bitsF_lt h;unfold keyU;split <;> omega
theorem keyF_eq {f : Nat} (h : f < 18446744073709551616) : keyF f = (keyU f : Int):=by
 have hb:=bitsF_lt h
 unfold keyF keyU
 generalize bitsF f = u at *
 by_cases hu : 2 ^ 63 ≤ u
 ·have e : ((u : Int) / 9223372036854775808 == 1) = true:=by rw [beq_iff_eq];omega
  rw [if_pos e,if_pos hu,show (18446744073709551615 : Int) = ((2 ^ 64 - 1 : Nat) : Int) by decide,bits_xor_u64_nat _ _ hb (by decide),Nat.xor_comm,Lib.xor_ones64 _ hb]
 ·have e : ((u : Int) / 9223372036854775808 == 1) = false:=by rw [beq_eq_false_iff_ne];omega
  rw [if_neg (by rw [e];decide),if_neg hu,show (9223372036854775808 : Int) = ((2 ^ 63 : Nat) : Int) by decide,bits_xor_u64_nat _ _ hb (by decide),xor_top _ (by omega)]
theorem keyU_c (f : Nat) (h : f < 18446744073709551616) (w : World) : Calls Tryz.prog 77 #[.float .f64 f] w fun e w' => e = .returned (.int .u64 (keyU f : Nat)) ∧ w = w':=by
 rw [← keyF_eq h]
 exact key_c f w
theorem keyF_nat {f : Nat} (h : f < 18446744073709551616) : (keyF f).toNat = keyU f:=by rw [keyF_eq h];rfl
theorem okL_app : ∀ a b : List ItemD,okL (a ++ b) = (okL a && okL b)
 | [],b => by rw [okL_nil];rfl
 | x :: a,b => by rw [List.cons_append,okL_cons,okL_cons,okL_app a b,Bool.and_assoc]
theorem dataL_take (l : List VI) (k : Nat) : VI.dataL (l.take k) = (VI.dataL l).take k:=by rw [dataL_eq,dataL_eq,List.map_take]
theorem pack_len_take (l : List VI) (k : Nat) (h : okL (VI.dataL l) = true) : (packL ((VI.dataL l).take k)).length = sizeL ((VI.dataL l).take k):=by
 rw [← dataL_take]
 refine pack_len _ _ (Nat.le_refl _) ?_
 rw [dataL_take]
 have:=okL_app ((VI.dataL l).take k) ((VI.dataL l).drop k)
 rw [List.take_append_drop,h] at this
 have:=this.symm
 rw [Bool.and_eq_true] at this
 exact this.1
theorem sizeL_take_le' (l : List VI) (k : Nat) (h : k < l.length) : sizeL ((VI.dataL l).take k) + sizeI l[k].data ≤ sizeL (VI.dataL l):=by
 have h1:=size_at l k h
 have h2:=sizeL_app ((VI.dataL l).take (k + 1)) ((VI.dataL l).drop (k + 1))
 rw [List.take_append_drop] at h2
 omega
theorem wp_put2 {w wr : World} {B : Nat} {v b : Value} {bs news : List UInt8} {o : Oper} {a : Act} {K : Act → World → Prop} {Q : Exit → Act → World → Prop} (s x : Operand)
 (ho : o.op = .call { callee:=.builtin .append,args:=#[s,x],argTypes:=#[35,35] }) (hA : AppEnd w B v bs b wr) (hs : a.eval s = b)
 {A : Option Addr} {m c : Nat} (hx : a.eval x = .slice A m c) (hr : Rd wr 1 A m (bts news)) (hm : m = news.length) (hl : bs.length + m ≤ 140737488355328) (hB : B ≤ wr.heap.size)
 (h : ∀ v' w',AppEnd w B v (bs ++ news) v' w' → AppEnd wr B b (bs ++ news) v' w' → K (a.put o.dst v') w') : o.wp Tryz.prog a wr K Q:=by
 obtain ⟨i0,hi,hz0,hz1,hz2⟩:=info_parts infoB
 refine wp_append_rd s x 35 ho B 5 Tryz.underlying35 hi hz0 hz1 hz2 rfl (by decide) hs hA.own hx hr (bts_one _) (by omega) (by decide) hB ?_
 intro v' w' h2 h3 h4
 have hp:=AppEnd.put hA.own h2 rfl hm h3 h4.1
 exact h v' w' (hA.trans hp) hp
theorem rd_new1 (wr : World) (c : UInt8) {g : Nat} (hg : g = wr.heap.size) : Rd (wr.alloc (.cells #[.int .u8 c.toNat] 5)) 1 (some ⟨g,0,none⟩) 1 (bts [c]):=by
 subst hg
 exact rd_new wr (bts [c]) 5 (by simp [bts])
structure LayAt (w : World) (B : Nat) (v : Value) (bs : List UInt8) (h : Nat) (xs : Array Value) (b : Value) (W : World) : Prop where
 app : AppEnd w B v bs b W
 row : W.heap[h]? = some (.cells xs 54 (0,0))
 ge : w.heap.size ≤ h
section
variable {w W W' : World} {B h : Nat} {v b b' : Value} {bs bs' : List UInt8} {xs : Array Value}
theorem LayAt.lth (m : LayAt w B v bs h xs b W) : h < W.heap.size:=(Array.getElem?_eq_some_iff.1 m.row).1
theorem LayAt.drew (m : LayAt w B v bs h xs b W) : LayAt w B v bs h xs b W.drew:=⟨m.app.step (Below.refl _ _).drew,m.row,m.ge⟩
theorem LayAt.step (m : LayAt w B v bs h xs b W) (hb : Below W.heap.size W W') : LayAt w B v bs h xs b W':=⟨m.app.step hb,(hb.block h m.lth).trans m.row,m.ge⟩
theorem LayAt.next (m : LayAt w B v bs h xs b W) (ha : AppEnd W B b bs' b' W') : LayAt w B v bs' h xs b' W' :=
 ⟨m.app.trans ha,(ha.kept.block h m.lth (own_ne_block m.app.own m.row (by decide))).trans m.row,m.ge⟩
theorem LayAt.start {wr : World} (ha : AppEnd w B v bs b wr) (xs : Array Value) : LayAt w B v bs wr.heap.size xs b (wr.alloc (.cells xs 54)) :=
 ⟨ha.step ((Below.refl _ _).alloc (Nat.le_refl _) _),one_row (Below.refl _ _),ha.kept.size⟩
end
structure LayZ (w : World) (B : Nat) (v : Value) (bs : List UInt8) (h : Nat) (xs : Array Value) (b : Value) (g : Nat) (W : World) : Prop where
 lay : LayAt w B v bs h xs b W
 zero : W.heap[g]? = some (.cells #[.int .u8 0] 5 (0,0))
 ne : b.ownBlock ≠ some g
section
variable {w W W' : World} {B h g : Nat} {v b b' : Value} {bs bs' : List UInt8} {xs : Array Value}
theorem LayZ.start (m : LayAt w B v bs h xs b W) : LayZ w B v bs h xs b W.heap.size (W.alloc (.cells #[.int .u8 0] 5)) :=
 ⟨m.step ((Below.refl _ _).alloc (Nat.le_refl _) _),one_row (Below.refl _ _),fun e => by have:=(m.app.own.lt _ e).2;omega⟩
theorem LayZ.ltg (m : LayZ w B v bs h xs b g W) : g < W.heap.size:=(Array.getElem?_eq_some_iff.1 m.zero).1
theorem LayZ.step (m : LayZ w B v bs h xs b g W) (hb : Below W.heap.size W W') : LayZ w B v bs h xs b g W':=⟨m.lay.step hb,(hb.block g m.ltg).trans m.zero,m.ne⟩
theorem LayZ.next (m : LayZ w B v bs h xs b g W) (ha : AppEnd W B b bs' b' W') : LayZ w B v bs' h xs b' g W' :=
 ⟨m.lay.next ha,(ha.kept.block g m.ltg m.ne).trans m.zero,fun e => by
   rcases ha.blk _ e with e | e
   ·exact m.ne e
   ·have:=m.ltg;omega⟩
theorem LayZ.rd (m : LayZ w B v bs h xs b g W) {g' : Nat} (hg : g' = g) : Rd W 1 (some ⟨g',0,none⟩) 1 (bts [0]):=by
 subst hg
 refine ⟨by simp [bts],fun _ => ⟨_,0,rfl,fun j u hu => ?_⟩⟩
 rw [Nat.zero_add]
 refine cell_of_row _ _ j _ _ _ m.zero |>.trans ?_
 simpa [bts] using hu
end
end
section
open Go.RowKit
set_option maxHeartbeats 1000000
set_option maxRecDepth 100000
theorem int_head {n : Nat} (h : n ≤ 8) : #[Value.int .u8 (IntKind.u8.wrap (IntKind.i64.wrap (20 - (n : Int))))] = (bts [UInt8.ofNat (20 - n)]).toArray:=by
 rw [IntWalk.i64_in _ (by omega),IntWalk.u8_in _ (by omega)]
 have e : (UInt8.ofNat (20 - n)).toNat = 20 - n:=by rw [UInt8.toNat_ofNat'];omega
 simp only [bts,List.map_cons,List.map_nil,e]
 rw [show ((20 - n : Nat) : Int) = 20 - (n : Int) by omega]
theorem int_head' {n : Nat} (h : n ≤ 8) : #[Value.int .u8 (IntKind.u8.wrap (IntKind.i64.wrap (20 + (n : Int))))] = (bts [UInt8.ofNat (20 + n)]).toArray:=by
 rw [IntWalk.i64_in _ (by omega),IntWalk.u8_in _ (by omega)]
 have e : (UInt8.ofNat (20 + n)).toNat = 20 + n:=by rw [UInt8.toNat_ofNat'];omega
 simp only [bts,List.map_cons,List.map_nil,e]
 rw [show ((20 + n : Nat) : Int) = 20 + (n : Int) by omega]
theorem int_neg {n : Int} (hn : -9223372036854775808 ≤ n ∧ n ≤ 9223372036854775807) (h : n < 0) : IntKind.u64.wrap (IntKind.i64.wrap (n - 1)) = (((n - 1) % 18446744073709551616).toNat : Int):=by
 rw [IntKind.wrap_i64]
 simp [IntKind.wrap,IntKind.bits,IntKind.signed]
 omega
theorem int_pos' {n : Int} (h : 0 ≤ n) : ((n.toNat : Nat) : Int) = n:=Int.toNat_of_nonneg h
theorem int_lt {n : Int} (hn : -9223372036854775808 ≤ n ∧ n ≤ 9223372036854775807) : n.toNat < 18446744073709551616:=by omega
theorem int_u64 {n : Int} (hn : -9223372036854775808 ≤ n ∧ n ≤ 9223372036854775807) (h : 0 ≤ n) : 0 ≤ n ∧ n ≤ 18446744073709551615:=by omega
theorem cell_keep {w0 W : World} {B : Nat} (h : ∃ m,w0.cell? ⟨1,0,none⟩ = some (.int .i64 m)) (hB : w0.heap.size ≤ B) (hb : Below B w0 W) : ∃ m,W.cell? ⟨1,0,none⟩ = some (.int .i64 m):=by
 obtain ⟨m,h⟩:=h
 exact ⟨m,(hb.cell (p:=⟨1,0,none⟩) (Nat.lt_of_lt_of_le (World.block_lt_of_cell? _ _ h) hB)).trans h⟩
theorem countB_le (t : ByteArray) : Lib.countB t ⟨#[0]⟩ ≤ t.size + 1:=by
 have:=Lib.count_le t.data.toList [0]
 rw [Array.length_toList] at this
 exact this
theorem lay_c [Inhabited Thr] (w0 : World) (hcell : ∃ m,w0.cell? ⟨1,0,none⟩ = some (.int .i64 m)) (B : Nat) (hB0 : w0.heap.size ≤ B) : ∀ (s : Nat) (l : List VI) (A : Option Addr) (c : Nat) (v : Value) (bs : List UInt8) (w : World),SizeOf.sizeOf l ≤ s → RdI w0 A c l →
 okL (VI.dataL l) = true → Hid (sizeL (VI.dataL l) ≤ 4096) → Below B w0 w → B ≤ w.heap.size → OwnB w B v bs → Hid (bs.length + sizeL (VI.dataL l) ≤ 10000000000000) →
 Calls Tryz.prog 84 #[v,.slice A l.length c] w fun e w' => ∃ v',e = .returned v' ∧ AppEnd w B v (bs ++ packL (VI.dataL l)) v' w':=by
 intro s
 induction s with
 | zero => intro l A c v bs w hs;exfalso;cases l <;> simp at hs
 | succ s ih =>
 intro l A c v bs w hs hR hok hz hBw hBs ho hbl
 have HIH:=Ld ih
 have HR:=Ld hR
 have HS:=Ld hs
 have HOK:=Ld hok
 have hlen : l.length * 64 ≤ 140737488355328:=hR.hb
 have HB:=Ld hBw
 have HO:=Ld ho
 have HC:=Ld hcell
 clear ih hR hs hok hBw ho hcell
 go_enter Tryz.func84,Tryz.ntmps84
 go_wp2
 go_loopw [0,10] (fun b i wr => ∃ (k : Nat),k ≤ l.length ∧ i = .int .i64 k ∧ Hid (AppEnd w B v (bs ++ packL ((VI.dataL l).take k)) b wr)) (fun _ i _ => l.length - (intOf i).toNat)
 case atStart => exact ⟨0,Nat.zero_le _,rfl,by rw [List.take_zero,packL_nil,List.append_nil];exact Ld (.refl HO.out)⟩
 case round =>
  obtain ⟨k,hk,rfl,hA⟩:=hrel
  have HBr:=Ld (HB.out.trans (hA.out.below hBs HO.out.ge))
  have HRr:=Ld (HR.out.below (HBr.out.mono hB0))
  by_cases hlt : k < l.length
  ·have hrd:=HRr.out.rd
   have hAd : ∃ ab ao,A = some ⟨ab,ao,none⟩:=by obtain ⟨b,o,e,_⟩:=hrd.2 (by omega);exact ⟨b,o,e⟩
   obtain ⟨ab,ao,rfl⟩:=hAd
   obtain ⟨p0,p1,p2,p3,p4,p5⟩:=item_at hrd hlt
   have HX:=Ld (HRr.out.hx _ (List.getElem_mem hlt))
   have HX0:=Ld (HR.out.hx _ (List.getElem_mem hlt))
   have HT:=Ld (packL_take l k hlt)
   have HSX:=Ld (sz_at hlt)
   have HOKX:=Ld (okL_get l k hlt HOK.out)
   have HLN:=Ld (pack_len_take l k HOK.out)
   have HLT:=Ld (sizeL_take_le' l k hlt)
   have HZX:=Ld (show sizeI l[k].data ≤ 4096 by
    have:=size_at l k hlt;have:=sizeL_take_le (VI.dataL l) (k + 1);have:=hz.out;omega)
   generalize l[k] = x at *
   rcases x with ⟨xk,xb,xn,xf,xt,xA,xc,xl⟩
   simp only [VI.k,VI.b,VI.n,VI.f,VI.t,VI.A,VI.c,VI.l] at *
   generalize hBS : bs ++ packL ((VI.dataL l).take k) = BS at *
   have HBS:=Ld hBS
   have HBL:=Ld (show BS.length + sizeI (VI.mk xk xb xn xf xt xA xc xl).data ≤ 10000000000000 by rw [← hBS,List.length_append,HLN.out];have:=hbl.out;have:=HLT.out;omega)
   have HNEXT:=Ld (show bs ++ packL ((VI.dataL l).take (k + 1)) = BS ++ packI (VI.mk xk xb xn xf xt xA xc xl).data by rw [HT.out,← List.append_assoc,hBS])
   rw [packI_eq] at HNEXT
   simp only [VI.k,VI.b,VI.n,VI.f,VI.t,VI.A,VI.c,VI.l] at HNEXT
   have hkk : 1 ≤ xk ∧ xk ≤ 6:=by
    have:=HOKX.out
    rw [okI_eq,Bool.and_eq_true] at this
    simp only [mayN,Bool.and_eq_true,decide_eq_true_eq,VI.k] at this
    exact ⟨of_decide_eq_true this.1.1.1,of_decide_eq_true this.1.1.2⟩
   have hL:=Ld (LayAt.start hA.out #[.int .u8 xk,.bool xb,.int .i64 xn,.float .f64 xf,.string xt,.slice xA xl.length xc])
   have hk6 : xk = 1 ∨ xk = 2 ∨ xk = 3 ∨ xk = 4 ∨ xk = 5 ∨ xk = 6:=by omega
   have HBG:=Ld (show B ≤ wr.heap.size from Nat.le_trans hBs hA.out.kept.size)
   clear hrd hBS hkk HT
   rcases hk6 with rfl | rfl | rfl | rfl | rfl | rfl
   ·have HN:=Ld (show bs ++ packL ((VI.dataL l).take (k + 1)) = BS ++ [1] by rw [HNEXT.out];rfl)
    go_wp2_with (at_builtin;go_must (refine wpList_put (m:=1) rfl (.tmp 18) (.tmp 19) rfl hL.out.app rfl _ (show _ = (bts [1]).toArray from rfl) (g:=wr.heap.size + 1) (by simp) rfl rfl (by simp) (by have:=HBL.out;have:=HZX.out;omega) (by have:=HBG.out;have:=hL.out.app.kept.size;(try simp);omega) ?_;intro v2 w2 hA2;have HA2:=Ld hA2;clear hA2))
    exact ⟨⟨k + 1,by omega,by go_num,by rw [HN.out];exact HA2⟩,by simp [intOf];omega⟩
   ·cases xb
    ·have HN:=Ld (show bs ++ packL ((VI.dataL l).take (k + 1)) = BS ++ [2] by rw [HNEXT.out];rfl)
     go_wp2_with (first
      | (go_at_call 74;go_must (refine (truth_c _ _).mono ?_;rintro e w1 ⟨rfl,rfl⟩))
      | (at_builtin;go_must (refine wpList_put (m:=1) rfl (.tmp 23) (.tmp 29) rfl hL.out.app rfl _ (show _ = (bts [2]).toArray from rfl) (g:=wr.heap.size + 1) (by simp) rfl rfl (by simp) (by have:=HBL.out;have:=HZX.out;omega) (by have:=HBG.out;have:=hL.out.app.kept.size;(try simp);omega) ?_;intro v2 w2 hA2;have HA2:=Ld hA2;clear hA2)))
     exact ⟨⟨k + 1,by omega,by go_num,by rw [HN.out];exact HA2⟩,by simp [intOf];omega⟩
    ·have HN:=Ld (show bs ++ packL ((VI.dataL l).take (k + 1)) = BS ++ [3] by rw [HNEXT.out];rfl)
     go_wp2_with (first
      | (go_at_call 74;go_must (refine (truth_c _ _).mono ?_;rintro e w1 ⟨rfl,rfl⟩))
      | (at_builtin;go_must (refine wpList_put (m:=1) rfl (.tmp 23) (.tmp 29) rfl hL.out.app rfl _ (show _ = (bts [3]).toArray from rfl) (g:=wr.heap.size + 1) (by simp) rfl rfl (by simp) (by have:=HBL.out;have:=HZX.out;omega) (by have:=HBG.out;have:=hL.out.app.kept.size;(try simp);omega) ?_;intro v2 w2 hA2;have HA2:=Ld hA2;clear hA2)))
     exact ⟨⟨k + 1,by omega,by go_num,by rw [HN.out];exact HA2⟩,by simp [intOf];omega⟩
   ·have hn8:=needN_le xn.natAbs
    have HXN:=Ld HX.out.hn
    have HNEXT0:=Ld (show bs ++ packL ((VI.dataL l).take (k + 1)) = BS ++ (if xn < 0 then UInt8.ofNat (20 - needN xn.natAbs) :: bigB ((xn - 1) % 18446744073709551616).toNat (needN xn.natAbs) else UInt8.ofNat (20 + needN xn.natAbs) :: bigB xn.toNat (needN xn.natAbs)) by rw [HNEXT.out];rfl)
    have hcells:=Ld (fun W (h : ∃ b bs',LayAt w B v bs' wr.heap.size #[.int .u8 3,.bool xb,.int .i64 xn,.float .f64 xf,.string xt,.slice xA xl.length xc] b W) => (show _ from let ⟨_,_,m⟩:=h;(And.intro (cells6 m.row) m.lth : _)))
    go_wp2_with (first
     | (go_at_call 116;go_must (refine (width_c xn HXN.out _).mono ?_;rintro e w1 ⟨rfl,rfl⟩)))
    ·clear p0 p1 p2 p3 p4 p5
     have HN:=Ld (show bs ++ packL ((VI.dataL l).take (k + 1)) = BS ++ UInt8.ofNat (20 - needN xn.natAbs) :: bigB ((xn - 1) % 18446744073709551616).toNat (needN xn.natAbs) by rw [HNEXT0.out];exact congrArg (BS ++ ·) (if_pos (by assumption)))
     refine wp_region_sched (S:=fun W => ∃ b bs',LayAt w B v bs' wr.heap.size #[.int .u8 3,.bool xb,.int .i64 xn,.float .f64 xf,.string xt,.slice xA xl.length xc] b W)
      [(0,true),(1,true),(2,true),(3,true),(6,true),(7,true),(8,true),(9,true),(10,true),(4,false),(5,false),(11,false),(12,true)] (by kernel_rfl) (by kernel_rfl) (by kernel_rfl) (fun _ _ d _ _ h => by cases d <;> exact h) ⟨_,_,hL.out.drew⟩ ?_
     repeat (apply sched_take;(exact rfl);rfl;(intro W hW;obtain ⟨⟨q0,q1,q2,q3,q4,q5⟩,q6⟩:=hcells.out W hW;go_simp;(try with_reducible rfl));simp only [Act.put,List.setIfInBounds_toArray,List.set_cons_zero,List.set_cons_succ])
     have hL1:=hL.out.drew
     apply sched_run;(exact rfl);rfl;intro K hK;go_simp
     have ev : #[Value.int .u8 (IntKind.u8.wrap (IntKind.i64.wrap (20 - (needN xn.natAbs : Int))))] = (bts [UInt8.ofNat (20 - needN xn.natAbs)]).toArray:=int_head (by omega)
     have hL2:=hL1.step ((Below.refl _ _).alloc (Nat.le_refl _) (.cells #[Value.int .u8 (IntKind.u8.wrap (IntKind.i64.wrap (20 - (needN xn.natAbs : Int))))] 5))
     refine hK.out _ _ ⟨_,_,hL2⟩ (fun _ => ?_)
     clear hK K
     try simp only [Act.put,List.setIfInBounds_toArray,List.set_cons_zero,List.set_cons_succ]
     apply sched_run;(exact rfl);rfl;intro K hK
     refine wp_put (wr:=World.drew (wr.alloc (.cells #[.int .u8 3,.bool xb,.int .i64 xn,.float .f64 xf,.string xt,.slice xA xl.length xc] 54))) (m:=1) (.tmp 39) (.tmp 43) rfl (AppEnd.refl hL1.app.own) rfl _ ev (g:=wr.heap.size + 1) (by simp) rfl rfl (by simp) (by have:=HBL.out;omega) (by have:=HBG.out;simp;omega) ?_
     intro v2 w2 hA2
     have hL3:=hL1.next hA2
     refine hK.out _ _ ⟨_,_,hL3⟩ (fun _ => ?_)
     clear hK K
     try simp only [Act.put,List.setIfInBounds_toArray,List.set_cons_zero,List.set_cons_succ]
     apply sched_run;(exact rfl);rfl;intro K hK;go_simp
     have eu : IntKind.u64.wrap (IntKind.i64.wrap (xn - 1)) = ((((xn - 1) % 18446744073709551616).toNat : Nat) : Int):=int_neg HXN.out (by assumption)
     rw [eu]
     refine (big_c B v2 _ ((xn - 1) % 18446744073709551616).toNat (needN xn.natAbs) w2 (by omega) hn8 hL3.app.own (by have:=HBG.out;have:=hL3.lth;omega) (by have:=HBL.out;simp only [List.length_append,List.length_cons,List.length_nil];omega)).mono ?_
     rintro e w3 ⟨v3,rfl,hA3⟩
     have hL4:=hL3.next hA3
     refine hK.out _ _ ⟨_,_,hL4⟩ (fun _ => ?_)
     clear hK K
     try simp only [Act.put,List.setIfInBounds_toArray,List.set_cons_zero,List.set_cons_succ]
     repeat (apply sched_take;(exact rfl);rfl;(intro W hW;go_simp;(try with_reducible rfl));simp only [Act.put,List.setIfInBounds_toArray,List.set_cons_zero,List.set_cons_succ])
     refine sched_done ?_
     have HA4:=Ld hL4.app
     clear hL1 hL2 hL3 hL4 hA2 hA3 ev eu
     go_wp2
     refine ⟨⟨k + 1,by omega,by go_num,?_⟩,by simp [intOf];omega⟩
     rw [HN.out]
     have:=HA4.out
     exact Ld (by simpa using this)
    ·clear p0 p1 p2 p3 p4 p5
     have HN:=Ld (show bs ++ packL ((VI.dataL l).take (k + 1)) = BS ++ UInt8.ofNat (20 + needN xn.natAbs) :: bigB xn.toNat (needN xn.natAbs) by rw [HNEXT0.out];exact congrArg (BS ++ ·) (if_neg (by omega)))
     refine wp_region_sched (S:=fun W => ∃ b bs',LayAt w B v bs' wr.heap.size #[.int .u8 3,.bool xb,.int .i64 xn,.float .f64 xf,.string xt,.slice xA xl.length xc] b W)
      [(0,true),(1,true),(2,true),(3,true),(6,true),(7,true),(8,true),(9,true),(4,false),(5,false),(10,false),(11,true)] (by kernel_rfl) (by kernel_rfl) (by kernel_rfl) (fun _ _ d _ _ h => by cases d <;> exact h) ⟨_,_,hL.out.drew⟩ ?_
     repeat (apply sched_take;(exact rfl);rfl;(intro W hW;obtain ⟨⟨q0,q1,q2,q3,q4,q5⟩,q6⟩:=hcells.out W hW;go_simp;(try with_reducible rfl));simp only [Act.put,List.setIfInBounds_toArray,List.set_cons_zero,List.set_cons_succ])
     have hL1:=hL.out.drew
     apply sched_run;(exact rfl);rfl;intro K hK;go_simp
     have ev : #[Value.int .u8 (IntKind.u8.wrap (IntKind.i64.wrap (20 + (needN xn.natAbs : Int))))] = (bts [UInt8.ofNat (20 + needN xn.natAbs)]).toArray:=int_head' (by omega)
     have hL2:=hL1.step ((Below.refl _ _).alloc (Nat.le_refl _) (.cells #[Value.int .u8 (IntKind.u8.wrap (IntKind.i64.wrap (20 + (needN xn.natAbs : Int))))] 5))
     refine hK.out _ _ ⟨_,_,hL2⟩ (fun _ => ?_)
     clear hK K
     try simp only [Act.put,List.setIfInBounds_toArray,List.set_cons_zero,List.set_cons_succ]
     apply sched_run;(exact rfl);rfl;intro K hK
     refine wp_put (wr:=World.drew (wr.alloc (.cells #[.int .u8 3,.bool xb,.int .i64 xn,.float .f64 xf,.string xt,.slice xA xl.length xc] 54))) (m:=1) (.tmp 51) (.tmp 55) rfl (AppEnd.refl hL1.app.own) rfl _ ev (g:=wr.heap.size + 1) (by simp) rfl rfl (by simp) (by have:=HBL.out;omega) (by have:=HBG.out;simp;omega) ?_
     intro v2 w2 hA2
     have hL3:=hL1.next hA2
     refine hK.out _ _ ⟨_,_,hL3⟩ (fun _ => ?_)
     clear hK K
     try simp only [Act.put,List.setIfInBounds_toArray,List.set_cons_zero,List.set_cons_succ]
     apply sched_run;(exact rfl);rfl;intro K hK;go_simp
     rw [IntWalk.u64_in xn (int_u64 HXN.out (by assumption))]
     have eu : ((xn.toNat : Nat) : Int) = xn:=int_pos' (by assumption)
     have hbig:=big_c B v2 _ xn.toNat (needN xn.natAbs) w2 (int_lt HXN.out) hn8 hL3.app.own (by have:=HBG.out;have:=hL3.lth;omega) (by have:=HBL.out;simp only [List.length_append,List.length_cons,List.length_nil];omega)
     rw [eu] at hbig
     refine hbig.mono ?_
     rintro e w3 ⟨v3,rfl,hA3⟩
     have hL4:=hL3.next hA3
     refine hK.out _ _ ⟨_,_,hL4⟩ (fun _ => ?_)
     clear hK K
     try simp only [Act.put,List.setIfInBounds_toArray,List.set_cons_zero,List.set_cons_succ]
     repeat (apply sched_take;(exact rfl);rfl;(intro W hW;go_simp;(try with_reducible rfl));simp only [Act.put,List.setIfInBounds_toArray,List.set_cons_zero,List.set_cons_succ])
     refine sched_done ?_
     have HA4:=Ld hL4.app
     clear hL1 hL2 hL3 hL4 hA2 hA3 ev eu hbig
     go_wp2
     refine ⟨⟨k + 1,by omega,by go_num,?_⟩,by simp [intOf];omega⟩
     rw [HN.out]
     have:=HA4.out
     exact Ld (by simpa using this)
   ·have hcells:=Ld (fun W (h : ∃ b bs',LayAt w B v bs' wr.heap.size #[.int .u8 4,.bool xb,.int .i64 xn,.float .f64 xf,.string xt,.slice xA xl.length xc] b W) => (show _ from let ⟨_,_,m⟩:=h;(And.intro (cells6 m.row) m.lth : _)))
    have HN:=Ld (show bs ++ packL ((VI.dataL l).take (k + 1)) = BS ++ 32 :: bigB (keyU xf) 8 by rw [← keyF_nat (show xf < 18446744073709551616 from HX.out.hf),HNEXT.out];rfl)
    have HKF:=Ld (keyU_lt HX.out.hf)
    go_wp2
    clear p0 p1 p2 p3 p4 p5
    refine wp_region_tree (S:=fun W => ∃ b bs',LayAt w B v bs' wr.heap.size #[.int .u8 4,.bool xb,.int .i64 xn,.float .f64 xf,.string xt,.slice xA xl.length xc] b W)
     (.take 0 (.take 3 (.take 4 (.run 1 (.run 2 (.run 5 (.run 6 (.take 7 .done))))))))
     (by kernel_rfl) (by kernel_rfl) (by kernel_rfl) (fun _ _ d _ _ h => by cases d <;> exact h) ⟨_,_,hL.out.drew⟩ ?_
    repeat (apply tree_take;(exact rfl);rfl;(intro W hW;obtain ⟨⟨q0,q1,q2,q3,q4,q5⟩,q6⟩:=hcells.out W hW;go_simp;(try with_reducible rfl));simp only [Act.put,List.setIfInBounds_toArray,List.set_cons_zero,List.set_cons_succ])
    have hL1:=hL.out.drew
    apply tree_run;(exact rfl);rfl;intro K hK;go_simp
    have hL2:=hL1.step ((Below.refl _ _).alloc (Nat.le_refl _) (.cells #[.int .u8 32] 5))
    refine hK.out _ _ ⟨_,_,hL2⟩ (fun _ => ?_)
    clear hK K
    try simp only [Act.put,List.setIfInBounds_toArray,List.set_cons_zero,List.set_cons_succ]
    apply tree_run;(exact rfl);rfl;intro K hK
    refine wp_put (wr:=World.drew (wr.alloc (.cells #[.int .u8 4,.bool xb,.int .i64 xn,.float .f64 xf,.string xt,.slice xA xl.length xc] 54))) (m:=1) (.tmp 64) (.tmp 65) rfl (AppEnd.refl hL1.app.own) rfl _ (show _ = (bts [32]).toArray from rfl) (g:=wr.heap.size + 1) (by simp) rfl rfl (by simp) (by have:=HBL.out;omega) (by have:=HBG.out;simp;omega) ?_
    intro v2 w2 hA2
    have hL3:=hL1.next hA2
    refine hK.out _ _ ⟨_,_,hL3⟩ (fun _ => ?_)
    clear hK K
    try simp only [Act.put,List.setIfInBounds_toArray,List.set_cons_zero,List.set_cons_succ]
    apply tree_run;(exact rfl);rfl;intro K hK;go_simp
    refine (keyU_c xf HX.out.hf _).mono ?_
    rintro e w3 ⟨rfl,rfl⟩
    refine hK.out _ _ ⟨_,_,hL3⟩ (fun _ => ?_)
    clear hK K
    try simp only [Act.put,List.setIfInBounds_toArray,List.set_cons_zero,List.set_cons_succ]
    apply tree_run;(exact rfl);rfl;intro K hK;go_simp
    refine (big_c B v2 _ (keyU xf) 8 w2 HKF.out (by omega) hL3.app.own (by have:=HBG.out;have:=hL3.lth;omega) (by have:=HBL.out;simp only [List.length_append,List.length_cons,List.length_nil];omega)).mono ?_
    rintro e w4 ⟨v4,rfl,hA4⟩
    have hL4:=hL3.next hA4
    refine hK.out _ _ ⟨_,_,hL4⟩ (fun _ => ?_)
    clear hK K
    try simp only [Act.put,List.setIfInBounds_toArray,List.set_cons_zero,List.set_cons_succ]
    repeat (apply tree_take;(exact rfl);rfl;(intro W hW;go_simp;(try with_reducible rfl));simp only [Act.put,List.setIfInBounds_toArray,List.set_cons_zero,List.set_cons_succ])
    refine tree_done ?_
    have HA9:=Ld hL4.app
    clear hcells hL hL1
    go_wp2
    refine ⟨⟨k + 1,by omega,by go_num,?_⟩,by simp [intOf];omega⟩
    rw [HN.out]
    have:=HA9.out
    exact Ld (by simpa using this)
   ·have HN:=Ld (show bs ++ packL ((VI.dataL l).take (k + 1)) = BS ++ 36 :: (esc xt.data.toList ++ [0,1]) by rw [HNEXT.out];rfl)
    have HSZ:=Ld (show 3 + xt.size + Lib.countByte xt.data.toList 0 ≤ 4096 by have:=HZX.out;rw [sizeI_eq] at this;exact this)
    have HM:=Ld (fun W (hW : Below B w W) => cell_keep HC.out hB0 (HB.out.trans hW))
    have HCB:=Ld (countB_le xt)
    have HES:=Ld (show (Lib.replaceAll xt.data.toList [0] [0,255]).length ≤ 8192 by
     rw [replaceAll_esc,esc_len,Array.length_toList];have:=HSZ.out;have e : xt.data.size = xt.size:=rfl;omega)
    go_wp2_with (first
     | (go_at_call 118;go_must (have hm:=HM.out _ (HL2.out.app.below hBs HO.out.ge);obtain ⟨m0,hm⟩:=hm;refine (Tryz.strings_ReplaceAll xt ⟨#[0]⟩ ⟨#[0,255]⟩ m0 _ (by have:=HSZ.out;omega) hm (by decide) (by have:=HCB.out;have:=HSZ.out;simp only [show ByteArray.size ⟨#[0,255]⟩ = 2 from rfl];omega)).mono ?_;rintro e w3 ⟨rfl,hb3⟩;have HL3:=Ld (HL2.out.step hb3);clear hb3 q4 hm))
     | (at_builtin;refine wpList_put (m:=1) rfl (.tmp 73) (.tmp 74) rfl (AppEnd.refl hL.out.app.own) rfl _ (show _ = (bts [36]).toArray from rfl) (g:=wr.heap.size + 1) (by simp) rfl rfl (by simp) (by have:=HBL.out;omega) (by have:=HBG.out;(try simp);omega) ?_;intro v2 w2 hA2;have HL2:=Ld (hL.out.next hA2);obtain ⟨_,_,_,_,q4,_⟩:=cells6 HL2.out.row;clear hA2 p0)
     | (at_builtin;refine wpList_str rfl (.tmp 76) (.tmp 79) rfl (AppEnd.refl HL3.out.app.own) rfl rfl (by have:=HBL.out;have:=HES.out;simp only [ByteArray.size,List.size_toArray,List.length_append,List.length_cons,List.length_nil];omega) (by have:=HBG.out;have:=HL3.out.lth;omega) ?_;intro v4 w4 hA4;have HL4:=Ld (HL3.out.next hA4);clear hA4)
     | (at_builtin;refine wpList_put (m:=2) rfl (.tmp 81) (.tmp 82) rfl (AppEnd.refl HL4.out.app.own) rfl _ (show _ = (bts [0,1]).toArray from rfl) rfl rfl rfl (by simp) (by have:=HBL.out;have:=HES.out;simp only [List.length_append,List.length_cons,List.length_nil];omega) (by have:=HBG.out;have:=HL4.out.lth;omega) ?_;intro v5 w5 hA5;have HL5:=Ld (HL4.out.next hA5);clear hA5))
    refine ⟨⟨k + 1,by omega,by go_num,?_⟩,by simp [intOf];omega⟩
    rw [HN.out,← replaceAll_esc]
    have:=HL5.out.app
    exact Ld (by simpa using this)
   ·have hcells:=Ld (fun W (h : ∃ b bs',LayAt w B v bs' wr.heap.size #[.int .u8 6,.bool xb,.int .i64 xn,.float .f64 xf,.string xt,.slice xA xl.length xc] b W) => (show _ from let ⟨_,_,m⟩:=h;(And.intro (cells6 m.row) m.lth : _)))
    have HN:=Ld (show bs ++ packL ((VI.dataL l).take (k + 1)) = BS ++ 40 :: (packL (VI.dataL xl) ++ [0]) by rw [HNEXT.out];rfl)
    have HOKL:=Ld (show okL (VI.dataL xl) = true by have:=HOKX.out;rw [okI_eq,Bool.and_eq_true] at this;exact this.2)
    have HSZ:=Ld (show sizeI (VI.mk 6 xb xn xf xt xA xc xl).data = 2 + sizeL (VI.dataL xl) by rw [sizeI_eq];rfl)
    have HZL:=Ld (show sizeL (VI.dataL xl) ≤ 4096 by have:=HZX.out;rw [HSZ.out] at this;omega)
    have HLL:=Ld (show (BS ++ [40]).length + sizeL (VI.dataL xl) ≤ 10000000000000 by have:=HBL.out;rw [HSZ.out] at this;simp only [List.length_append,List.length_cons,List.length_nil];omega)
    have HLL2:=Ld (show BS.length + 1 + (packL (VI.dataL xl)).length ≤ 20000000000000 by have:=HLL.out;have h2:=pack_len _ xl (Nat.le_refl _) HOKL.out;simp only [List.length_append,List.length_cons,List.length_nil] at this;omega)
    go_wp2
    clear p0 p1 p2 p3 p4 p5
    refine wp_region_tree (S:=fun W => ∃ b bs',LayAt w B v bs' wr.heap.size #[.int .u8 6,.bool xb,.int .i64 xn,.float .f64 xf,.string xt,.slice xA xl.length xc] b W)
     (.take 0 (.take 3 (.take 4 (.two 1 6 (.two 2 6 (.two 5 6 (.run 6 (.run 7 (.take 8 .done))) (.run 5 (.run 7 (.take 8 .done)))) (.run 2 (.run 5 (.run 7 (.take 8 .done))))) (.run 1 (.run 2 (.run 5 (.run 7 (.take 8 .done)))))))))
     (by kernel_rfl) (by kernel_rfl) (by kernel_rfl) (fun _ _ d _ _ h => by cases d <;> exact h) ⟨_,_,hL.out.drew⟩ ?_
    repeat (apply tree_take;(exact rfl);rfl;(intro W hW;obtain ⟨⟨q0,q1,q2,q3,q4,q5⟩,q6⟩:=hcells.out W hW;go_simp;(try with_reducible rfl));simp only [Act.put,List.setIfInBounds_toArray,List.set_cons_zero,List.set_cons_succ])
    have hL1:=hL.out.drew
    refine tree_two ?_ ?_
    ·apply tree_run;(exact rfl);rfl;intro K hK;go_simp
     have hL2:=hL1.step ((Below.refl _ _).alloc (Nat.le_refl _) (.cells #[.int .u8 40] 5))
     refine hK.out _ _ ⟨_,_,hL2⟩ (fun _ => ?_)
     clear hK K
     try simp only [Act.put,List.setIfInBounds_toArray,List.set_cons_zero,List.set_cons_succ]
     have hr0:=rd_new1 (World.drew (wr.alloc (.cells #[.int .u8 6,.bool xb,.int .i64 xn,.float .f64 xf,.string xt,.slice xA xl.length xc] 54))) 40 (g:=wr.heap.size + 1) (by simp)
     refine tree_two ?_ ?_
     ·apply tree_run;(exact rfl);rfl;intro K hK
      refine wp_put2 (m:=1) (.tmp 86) (.tmp 87) rfl (AppEnd.refl hL2.app.own) rfl rfl (news:=[40]) hr0 rfl (by have:=HBL.out;have:=HLL2.out;(try simp only [List.length_append,List.length_cons,List.length_nil]);omega) (Nat.le_trans hBs hL2.app.kept.size) ?_
      intro v2 w2 _ hA2
      have hL3:=hL2.next hA2
      refine hK.out _ _ ⟨_,_,hL3⟩ (fun _ => ?_)
      clear hK K
      try simp only [Act.put,List.setIfInBounds_toArray,List.set_cons_zero,List.set_cons_succ]
      refine tree_two ?_ ?_
      ·apply tree_run;(exact rfl);rfl;intro K hK;go_simp
       refine (HIH.out xl xA xc v2 _ w2 (by have:=HSX.out;have:=HS.out;omega) HX0.out.list HOKL.out HZL.out (HB.out.trans (hL3.app.below hBs HO.out.ge)) (Nat.le_trans hBs hL3.app.kept.size) hL3.app.own HLL.out).mono ?_
       rintro e w4 ⟨v4,rfl,hA4⟩
       have hL4:=hL3.next hA4
       refine hK.out _ _ ⟨_,_,hL4⟩ (fun _ => ?_)
       clear hK K
       try simp only [Act.put,List.setIfInBounds_toArray,List.set_cons_zero,List.set_cons_succ]
       apply tree_run;(exact rfl);rfl;intro K hK;go_simp
       have z5:=LayZ.start hL4
       refine hK.out _ _ ⟨_,_,z5.lay⟩ (fun _ => ?_)
       clear hK K
       try simp only [Act.put,List.setIfInBounds_toArray,List.set_cons_zero,List.set_cons_succ]
       apply tree_run;(exact rfl);rfl;intro K hK
       refine wp_put2 (m:=1) (.tmp 91) (.tmp 92) rfl (AppEnd.refl z5.lay.app.own) rfl rfl (news:=[0]) (z5.rd (by simp)) rfl (by have:=HBL.out;have:=HLL2.out;(try simp only [List.length_append,List.length_cons,List.length_nil]);omega) (Nat.le_trans hBs z5.lay.app.kept.size) ?_
       intro v5 w5 _ hA5
       have z6:=z5.next hA5
       refine hK.out _ _ ⟨_,_,z6.lay⟩ (fun _ => ?_)
       clear hK K
       try simp only [Act.put,List.setIfInBounds_toArray,List.set_cons_zero,List.set_cons_succ]
       repeat (apply tree_take;(exact rfl);rfl;(intro W hW;go_simp;(try with_reducible rfl));simp only [Act.put,List.setIfInBounds_toArray,List.set_cons_zero,List.set_cons_succ])
       refine tree_done ?_
       have HA9:=Ld z6.lay.app
       clear hcells hL hL1
       go_wp2
       refine ⟨⟨k + 1,by omega,by go_num,?_⟩,by simp [intOf];omega⟩
       rw [HN.out]
       have:=HA9.out
       exact Ld (by simpa using this)
      ·apply tree_run;(exact rfl);rfl;intro K hK;go_simp
       have z4:=LayZ.start hL3
       refine hK.out _ _ ⟨_,_,z4.lay⟩ (fun _ => ?_)
       clear hK K
       try simp only [Act.put,List.setIfInBounds_toArray,List.set_cons_zero,List.set_cons_succ]
       apply tree_run;(exact rfl);rfl;intro K hK;go_simp
       refine (HIH.out xl xA xc v2 _ _ (by have:=HSX.out;have:=HS.out;omega) HX0.out.list HOKL.out HZL.out (HB.out.trans (z4.lay.app.below hBs HO.out.ge)) (Nat.le_trans hBs z4.lay.app.kept.size) z4.lay.app.own HLL.out).mono ?_
       rintro e w4 ⟨v4,rfl,hA4⟩
       have z5:=z4.next hA4
       refine hK.out _ _ ⟨_,_,z5.lay⟩ (fun _ => ?_)
       clear hK K
       try simp only [Act.put,List.setIfInBounds_toArray,List.set_cons_zero,List.set_cons_succ]
       apply tree_run;(exact rfl);rfl;intro K hK
       refine wp_put2 (m:=1) (.tmp 91) (.tmp 92) rfl (AppEnd.refl z5.lay.app.own) rfl rfl (news:=[0]) (z5.rd (by simp)) rfl (by have:=HBL.out;have:=HLL2.out;(try simp only [List.length_append,List.length_cons,List.length_nil]);omega) (Nat.le_trans hBs z5.lay.app.kept.size) ?_
       intro v5 w5 _ hA5
       have z6:=z5.next hA5
       refine hK.out _ _ ⟨_,_,z6.lay⟩ (fun _ => ?_)
       clear hK K
       try simp only [Act.put,List.setIfInBounds_toArray,List.set_cons_zero,List.set_cons_succ]
       repeat (apply tree_take;(exact rfl);rfl;(intro W hW;go_simp;(try with_reducible rfl));simp only [Act.put,List.setIfInBounds_toArray,List.set_cons_zero,List.set_cons_succ])
       refine tree_done ?_
       have HA9:=Ld z6.lay.app
       clear hcells hL hL1
       go_wp2
       refine ⟨⟨k + 1,by omega,by go_num,?_⟩,by simp [intOf];omega⟩
       rw [HN.out]
       have:=HA9.out
       exact Ld (by simpa using this)
     ·apply tree_run;(exact rfl);rfl;intro K hK;go_simp
      have z3:=LayZ.start hL2
      refine hK.out _ _ ⟨_,_,z3.lay⟩ (fun _ => ?_)
      clear hK K
      try simp only [Act.put,List.setIfInBounds_toArray,List.set_cons_zero,List.set_cons_succ]
      apply tree_run;(exact rfl);rfl;intro K hK
      refine wp_put2 (m:=1) (.tmp 86) (.tmp 87) rfl (AppEnd.refl z3.lay.app.own) rfl rfl (news:=[40]) (hr0.below ((Below.refl _ _).alloc (Nat.le_refl _) _)) rfl (by have:=HBL.out;have:=HLL2.out;(try simp only [List.length_append,List.length_cons,List.length_nil]);omega) (Nat.le_trans hBs z3.lay.app.kept.size) ?_
      intro v2 w2 _ hA2
      have z4:=z3.next hA2
      refine hK.out _ _ ⟨_,_,z4.lay⟩ (fun _ => ?_)
      clear hK K
      try simp only [Act.put,List.setIfInBounds_toArray,List.set_cons_zero,List.set_cons_succ]
      apply tree_run;(exact rfl);rfl;intro K hK;go_simp
      refine (HIH.out xl xA xc v2 _ w2 (by have:=HSX.out;have:=HS.out;omega) HX0.out.list HOKL.out HZL.out (HB.out.trans (z4.lay.app.below hBs HO.out.ge)) (Nat.le_trans hBs z4.lay.app.kept.size) z4.lay.app.own HLL.out).mono ?_
      rintro e w4 ⟨v4,rfl,hA4⟩
      have z5:=z4.next hA4
      refine hK.out _ _ ⟨_,_,z5.lay⟩ (fun _ => ?_)
      clear hK K
      try simp only [Act.put,List.setIfInBounds_toArray,List.set_cons_zero,List.set_cons_succ]
      apply tree_run;(exact rfl);rfl;intro K hK
      refine wp_put2 (m:=1) (.tmp 91) (.tmp 92) rfl (AppEnd.refl z5.lay.app.own) rfl rfl (news:=[0]) (z5.rd (by simp)) rfl (by have:=HBL.out;have:=HLL2.out;(try simp only [List.length_append,List.length_cons,List.length_nil]);omega) (Nat.le_trans hBs z5.lay.app.kept.size) ?_
      intro v5 w5 _ hA5
      have z6:=z5.next hA5
      refine hK.out _ _ ⟨_,_,z6.lay⟩ (fun _ => ?_)
      clear hK K
      try simp only [Act.put,List.setIfInBounds_toArray,List.set_cons_zero,List.set_cons_succ]
      repeat (apply tree_take;(exact rfl);rfl;(intro W hW;go_simp;(try with_reducible rfl));simp only [Act.put,List.setIfInBounds_toArray,List.set_cons_zero,List.set_cons_succ])
      refine tree_done ?_
      have HA9:=Ld z6.lay.app
      clear hcells hL hL1
      go_wp2
      refine ⟨⟨k + 1,by omega,by go_num,?_⟩,by simp [intOf];omega⟩
      rw [HN.out]
      have:=HA9.out
      exact Ld (by simpa using this)
    ·apply tree_run;(exact rfl);rfl;intro K hK;go_simp
     have z2:=LayZ.start hL1
     refine hK.out _ _ ⟨_,_,z2.lay⟩ (fun _ => ?_)
     clear hK K
     try simp only [Act.put,List.setIfInBounds_toArray,List.set_cons_zero,List.set_cons_succ]
     apply tree_run;(exact rfl);rfl;intro K hK;go_simp
     have z3:=z2.step ((Below.refl _ _).alloc (Nat.le_refl _) (.cells #[.int .u8 40] 5))
     refine hK.out _ _ ⟨_,_,z3.lay⟩ (fun _ => ?_)
     clear hK K
     try simp only [Act.put,List.setIfInBounds_toArray,List.set_cons_zero,List.set_cons_succ]
     apply tree_run;(exact rfl);rfl;intro K hK
     refine wp_put2 (m:=1) (.tmp 86) (.tmp 87) rfl (AppEnd.refl z3.lay.app.own) rfl rfl (news:=[40]) (rd_new1 _ 40 (by simp)) rfl (by have:=HBL.out;have:=HLL2.out;(try simp only [List.length_append,List.length_cons,List.length_nil]);omega) (Nat.le_trans hBs z3.lay.app.kept.size) ?_
     intro v2 w2 _ hA2
     have z4:=z3.next hA2
     refine hK.out _ _ ⟨_,_,z4.lay⟩ (fun _ => ?_)
     clear hK K
     try simp only [Act.put,List.setIfInBounds_toArray,List.set_cons_zero,List.set_cons_succ]
     apply tree_run;(exact rfl);rfl;intro K hK;go_simp
     refine (HIH.out xl xA xc v2 _ w2 (by have:=HSX.out;have:=HS.out;omega) HX0.out.list HOKL.out HZL.out (HB.out.trans (z4.lay.app.below hBs HO.out.ge)) (Nat.le_trans hBs z4.lay.app.kept.size) z4.lay.app.own HLL.out).mono ?_
     rintro e w4 ⟨v4,rfl,hA4⟩
     have z5:=z4.next hA4
     refine hK.out _ _ ⟨_,_,z5.lay⟩ (fun _ => ?_)
     clear hK K
     try simp only [Act.put,List.setIfInBounds_toArray,List.set_cons_zero,List.set_cons_succ]
     apply tree_run;(exact rfl);rfl;intro K hK
     refine wp_put2 (m:=1) (.tmp 91) (.tmp 92) rfl (AppEnd.refl z5.lay.app.own) rfl rfl (news:=[0]) (z5.rd (by simp)) rfl (by have:=HBL.out;have:=HLL2.out;(try simp only [List.length_append,List.length_cons,List.length_nil]);omega) (Nat.le_trans hBs z5.lay.app.kept.size) ?_
     intro v5 w5 _ hA5
     have z6:=z5.next hA5
     refine hK.out _ _ ⟨_,_,z6.lay⟩ (fun _ => ?_)
     clear hK K
     try simp only [Act.put,List.setIfInBounds_toArray,List.set_cons_zero,List.set_cons_succ]
     repeat (apply tree_take;(exact rfl);rfl;(intro W hW;go_simp;(try with_reducible rfl));simp only [Act.put,List.setIfInBounds_toArray,List.set_cons_zero,List.set_cons_succ])
     refine tree_done ?_
     have HA9:=Ld z6.lay.app
     clear hcells hL hL1
     go_wp2
     refine ⟨⟨k + 1,by omega,by go_num,?_⟩,by simp [intOf];omega⟩
     rw [HN.out]
     have:=HA9.out
     exact Ld (by simpa using this)
  ·go_wp2
   go_ret
   have e:=List.take_of_length_le (l:=VI.dataL l) (i:=k) (by rw [dataL_eq,List.length_map];omega)
   rw [e] at hA
   exact ⟨_,rfl,hA.out⟩
end
end Go.Proofs.YtonjgedhmmnolaaGreatDoor
