import Derived.Test.YtonjgedhmmnolaaGreatDoorProg
import Derived.WalkKit
import Derived.WalkSpells
import Derived.WalkLawsBesides
import Derived.BigQuiet
import Derived.Deep.QuietTactic
import Derived.Lib.Hide
import Derived.Deep.DeepFit
import Derived.Deep.DeepMust
import Derived.Deep.Cut
import Derived.OwnWalk
import Derived.Maps.AppendAt
import Derived.RegionTactic
import Derived.Deep.MidRow
import Derived.Deep.RegionHeld
import Derived.OneCell
import Derived.IntWalk
namespace Go.Proofs.YtonjgedhmmnolaaGreatDoor
section
open Go.RowKit
def Rd (w : World) (size : Nat) (A : Option Addr) (n : Nat) (xs : List Value) : Prop :=
 xs.length = n * size ∧ (0 < n → ∃ b o,A = some ⟨b,o,none⟩ ∧ ∀ j u,xs[j]? = some u → w.cell? ⟨b,o + j,none⟩ = some u)
theorem Rd.below {w w' : World} {size n : Nat} {A : Option Addr} {xs : List Value} (h : Rd w size A n xs) (hb : Below w.heap.size w w') : Rd w' size A n xs :=
 ⟨h.1,fun hn => by
   obtain ⟨b,o,e,hc⟩:=h.2 hn
   exact ⟨b,o,e,fun j u hu => by
    have h1:=hc j u hu
    have h2:=World.block_lt_of_cell? w _ h1
    exact (hb.cell (p:=⟨b,o + j,none⟩) h2).trans h1⟩⟩
structure Ext where
 more : Array Obj
 draws : Nat
instance : Inhabited Ext:=⟨⟨#[],0⟩⟩
def grow (w : World) (x : Ext) : World:={ w with heap:=w.heap ++ x.more,drawn:=x.draws }
theorem grow_size (w : World) (x : Ext) : (grow w x).heap.size = w.heap.size + x.more.size:=by simp [grow]
theorem grow_block (w : World) (x : Ext) (k : Nat) (h : k < w.heap.size) : (grow w x).heap[k]? = w.heap[k]?:=by
 simp [grow,Array.getElem?_append,h]
theorem grow_cell (w : World) (x : Ext) (a : Addr) (h : a.block < w.heap.size) : (grow w x).cell? a = w.cell? a :=
 World.cell?_of_block (grow_block w x _ h)
theorem grow_frozen (w : World) (x : Ext) (a : Addr) (h : a.block < w.heap.size) : (grow w x).frozen? a = w.frozen? a :=
 World.frozen?_of_block (grow_block w x _ h)
theorem below_grow (w : World) (x : Ext) : Below w.heap.size w (grow w x) :=
 ⟨rfl,rfl,rfl,by simp [grow],fun k hk => grow_block w x k hk⟩
theorem grow_of_below {w w' : World} (h : Below w.heap.size w w') : ∃ x,w' = grow w x:=by
 refine ⟨⟨w'.heap.extract w.heap.size w'.heap.size,w'.drawn⟩,?_⟩
 have hh : w'.heap = w.heap ++ w'.heap.extract w.heap.size w'.heap.size:=by
  apply Array.ext_getElem?
  intro i
  rw [Array.getElem?_append]
  split
  ·rename_i hi;exact h.block i hi
  ·rename_i hi
   have:=h.size
   rw [Array.getElem?_extract]
   by_cases hj : i < w'.heap.size
   ·rw [if_pos (by omega)];congr 1;omega
   ·rw [if_neg (by omega)];simp;omega
 cases w with | mk heap tape drawn os output =>
 cases w' with | mk heap' tape' drawn' os' output' =>
 simp only [grow]
 have h1:=h.os;have h2:=h.tape;have h3:=h.output
 simp only at h1 h2 h3 hh
 subst h1 h2 h3
 congr 1
theorem quiet_below {P : Program} {f : FuncId} {args : Array Value} {w : World} {x : Ext} {v : Value}
 (h : Calls P f args (grow w x) fun e w' => e = .returned v ∧ Below (grow w x).heap.size (grow w x) w') :
 Calls P f args (grow w x) fun e w'' => e = .returned v ∧ ∃ x',w'' = grow w x' :=
 h.mono fun _ _ ⟨he,hb⟩ => ⟨he,grow_of_below ((below_grow w x).trans (hb.mono (by simp [grow])))⟩
theorem wp_region_grow {P : Program} {id : Nat} {Q : Exit → Act → World → Prop} {a : Act} {w : World} {l : List Oper} (hm : P.follows .mixedOrders = true) (hB : Region.lexB .any l.toArray = true)
 (h : wpQuiet P l.toArray (fun w' => ∃ x,w' = grow w x) (fun a' => ∀ w',Below w.heap.size w w' → Q .normal a' w') l a) : (Code.region id l.toArray true).wp P Q a w :=
 wp_region_quiet (C:=fun w' => ∃ x,w' = grow w x) hm hB ⟨⟨#[],w.drawn + 1⟩,by simp [grow]⟩ (by
  have e : (fun a' => ∀ w',Below w.heap.size w w' → Q .normal a' w') = (fun a' => ∀ w',(∃ x,w' = grow w x) → Q .normal a' w'):=by
   funext a'
   apply propext
   constructor
   ·rintro h1 w' ⟨x,n,rfl⟩;exact h1 _ (below_grow w x)
   ·intro h1 w' hb;exact h1 _ (grow_of_below hb)
  rw [← e];exact h)
theorem setRow_block (w : World) (g : Nat) (cs old : Array Value) (t : TypeId) (fr : Nat × Nat) (h : w.heap[g]? = some (.cells old t fr)) : (w.setRow g cs).heap[g]? = some (.cells cs t fr):=by
 simp [World.setRow,Array.getElem?_modify,h]
theorem setRow_other (w : World) (g k : Nat) (cs : Array Value) (h : k ≠ g) : (w.setRow g cs).heap[k]? = w.heap[k]?:=by
 simp only [World.setRow,Array.getElem?_modify]
 rw [if_neg (by omega)]
theorem below_setRow {B : Nat} {a w : World} (h : Below B a w) {g : Nat} (hg : B ≤ g) (cs : Array Value) : Below B a (w.setRow g cs) :=
 h.trans ⟨rfl,rfl,rfl,by simp [World.setRow],fun k hk => setRow_other _ _ _ _ (by omega)⟩
section
variable {P : Program}
theorem results_ct {fn : Func} {p u : Tmp} {ty : TypeId} (h : fn.results = #[.cell p ty,.tmp u]) (tmps : Array Value) (w : World) (g : Nat) (t : TypeId) (cs : Array Value) (fr : Nat × Nat) (d : TypeDesc)
 (hp : tmps.getD p undef = .pointer (some ⟨g,0,none⟩)) (hg : w.heap[g]? = some (.cells cs t fr))
 (hu : P.underlying ty = some d) (hd : (match d with | .struct _ | .array _ _ => true | _ => false) = true) (hi : (P.info? ty).map (·.size) = some cs.size) :
 (results fn tmps).run P w = .ok (.tuple #[.agg cs,tmps.getD u undef]) w:=by
 have hp' : tmps[p]?.getD undef = .pointer (some ⟨g,0,none⟩):=by simpa using hp
 simp [results,h,hp',asAddr,run_loadVar_row w g t ty cs fr d hg hu hd hi]
theorem results_ctt {fn : Func} {p u v : Tmp} {ty : TypeId} (h : fn.results = #[.cell p ty,.tmp u,.tmp v]) (tmps : Array Value) (w : World) (g : Nat) (t : TypeId) (cs : Array Value) (fr : Nat × Nat) (d : TypeDesc)
 (hp : tmps.getD p undef = .pointer (some ⟨g,0,none⟩)) (hg : w.heap[g]? = some (.cells cs t fr))
 (hu : P.underlying ty = some d) (hd : (match d with | .struct _ | .array _ _ => true | _ => false) = true) (hi : (P.info? ty).map (·.size) = some cs.size) :
 (results fn tmps).run P w = .ok (.tuple #[.agg cs,tmps.getD u undef,tmps.getD v undef]) w:=by
 have hp' : tmps[p]?.getD undef = .pointer (some ⟨g,0,none⟩):=by simpa using hp
 simp [results,h,hp',asAddr,run_loadVar_row w g t ty cs fr d hg hu hd hi]
end
theorem own_rd {w : World} {base : Nat} {e : TypeId} {size n : Nat} {v : Value} {xs : List Value} (h : w.ownsRow base e size v n xs) :
 ∃ A c,v = .slice A n c ∧ n ≤ c ∧ Rd w size A n xs:=by
 obtain ⟨h1,h2⟩:=h
 rcases h2 with ⟨rfl,rfl⟩ | ⟨g,cap,cur,rfl,_,hh,hn,_,hs,ht⟩
 ·exact ⟨none,0,rfl,Nat.le_refl _,h1,fun h => absurd h (by omega)⟩
 ·refine ⟨_,cap,rfl,hn,h1,fun _ => ⟨g,0,rfl,fun j u hu => ?_⟩⟩
  rw [Nat.zero_add,cell_of_row w g j cur e (0,0) hh]
  rw [← ht,List.getElem?_take] at hu
  split at hu
  ·simpa using hu
  ·cases hu
theorem own_below {w w' : World} {base : Nat} {e : TypeId} {size n : Nat} {v : Value} {xs : List Value} (h : w.ownsRow base e size v n xs) (hb : Below w.heap.size w w') : w'.ownsRow base e size v n xs:=by
 obtain ⟨h1,h2⟩:=h
 rcases h2 with h2 | ⟨g,cap,cur,hv,hg,hh,hrest⟩
 ·exact ⟨h1,.inl h2⟩
 ·exact ⟨h1,.inr ⟨g,cap,cur,hv,hg,(hb.block g (Array.getElem?_eq_some_iff.1 hh).1).trans hh,hrest⟩⟩
theorem Rd.none_ {w : World} {size : Nat} {A : Option Addr} : Rd w size A 0 []:=⟨by simp,fun h => absurd h (by omega)⟩
theorem Rd.take {w : World} {size n : Nat} {A : Option Addr} {xs : List Value} (h : Rd w size A n xs) {k : Nat} (hk : k ≤ n) : Rd w size A k (xs.take (k * size)):=by
 refine ⟨?_,fun h0 => ?_⟩
 ·rw [List.length_take,h.1,Nat.min_eq_left (Nat.mul_le_mul_right _ hk)]
 ·obtain ⟨b,o,e,hc⟩:=h.2 (by omega)
  refine ⟨b,o,e,fun j u hu => hc j u ?_⟩
  rw [List.getElem?_take] at hu
  split at hu
  ·exact hu
  ·cases hu
theorem Rd.drop {w : World} {size n : Nat} {A : Option Addr} {xs : List Value} (h : Rd w size A n xs) {k c : Nat} (hk : k ≤ n) (hc : n ≤ c) :
 Rd w size (if c = k then A else A.map (·.add (k * size))) (n - k) (xs.drop (k * size)):=by
 refine ⟨?_,fun h0 => ?_⟩
 ·rw [List.length_drop,h.1,Nat.sub_mul]
 ·obtain ⟨b,o,rfl,hcell⟩:=h.2 (by omega)
  rw [if_neg (by omega)]
  refine ⟨b,o + k * size,by simp [Addr.add_mid],fun j u hu => ?_⟩
  rw [Nat.add_assoc]
  exact hcell _ u (by rw [← hu,List.getElem?_drop])
theorem run_append_nothing {P : Program} {w : World} {base : Nat} {t ty e : TypeId} {i : TypeInfo} {size : Nat} (ht : P.underlying t = some (.slice e)) (hi : P.info? e = some i)
 {v : Value} {n : Nat} {xs : List Value} (hown : w.ownsRow base e size v n xs) (c : Nat) : (Builtin.append_ #[t,t] ty #[v,.slice none 0 c]).run P w = .ok v w:=by
 rcases hown.2 with ⟨rfl,rfl⟩ | ⟨g,cap,cur,rfl,_,_,hnc,_⟩
 ·simp [Builtin.append_,run_underlying ht,sizeOf,typeInfo,hi,Builtin.lenOf,Builtin.firstCells]
 ·simp [Builtin.append_,run_underlying ht,sizeOf,typeInfo,hi,Builtin.lenOf,Builtin.firstCells,hnc,storeCells]
theorem run_append_rd {P : Program} {w : World} {base : Nat} {t ty e : TypeId} {i : TypeInfo} {z : Value} {size bytes : Nat} (ht : P.underlying t = some (.slice e)) (hi : P.info? e = some i) (hz : i.zero = some z)
 (hsize : i.size = size) (hby : i.bytes = bytes) (hzs : z.cells.size = size) (hsz : 0 < size)
 {v : Value} {n : Nat} {xs : List Value} (hown : w.ownsRow base e size v n xs)
 {A : Option Addr} {m : Nat} (c : Nat) {news : List Value} (hr : Rd w size A m news) (h1 : ∀ u ∈ news,u.oneCell' = true)
 (hbytes : (n + m) * bytes ≤ 140737488355328) (hb1 : 0 < bytes) (hbase : base ≤ w.heap.size) :
 ∃ v' w',(Builtin.append_ #[t,t] ty #[v,.slice A m c]).run P w = .ok v' w' ∧ w'.ownsRow base e size v' (n + m) (xs ++ news) ∧ w.grownBy w' v.ownBlock ∧
   (v'.ownBlock = v.ownBlock ∨ v'.ownBlock = some w.heap.size) ∧ (v = .slice none 0 0 → m = 0 → v' = v):=by
 have h63 : n + m ≤ maxLen:=by
  have : (n + m) * 1 ≤ (n + m) * bytes:=Nat.mul_le_mul_left _ hb1
  unfold maxLen;omega
 rcases Nat.eq_zero_or_pos m with h0 | h0
 ·subst h0
  have hn : news = []:=List.eq_nil_of_length_eq_zero (by simpa using hr.1)
  subst hn
  cases A with
  | none => exact ⟨v,w,run_append_nothing ht hi hown c,by simpa using hown,⟨rfl,rfl,rfl,Nat.le_refl _,fun _ _ _ => rfl⟩,.inl rfl,fun _ _ => rfl⟩
  | some ad =>
    obtain ⟨v',w',h2,h3,h4,h5,h6⟩:=run_append_own_at (P:=P) w base t ty e i z size bytes ht hi hz hsize hby hzs hsz v n xs hown ad 0 c [] (by simp) (fun j u h => by simp at h) (fun u h => by simp at h) h63 hbytes hbase
    exact ⟨v',w',h2,h3,h4,h6,fun e _ => (h5.2 ⟨e,rfl⟩).trans e.symm⟩
 ·obtain ⟨b,o,rfl,hc⟩:=hr.2 h0
  obtain ⟨v',w',h2,h3,h4,h5,h6⟩:=run_append_own_at (P:=P) w base t ty e i z size bytes ht hi hz hsize hby hzs hsz v n xs hown ⟨b,o,none⟩ m c news hr.1 (fun j u h => by rw [Addr.add_mid];exact hc j u h) h1 h63 hbytes hbase
  exact ⟨v',w',h2,h3,h4,h6,fun _ h => by omega⟩
theorem wp_append_rd {P : Program} {w : World} {o : Oper} {a : Act} {K : Act → World → Prop} {Q : Exit → Act → World → Prop} (s x : Operand) (t : TypeId)
 (ho : o.op = .call { callee:=.builtin .append,args:=#[s,x],argTypes:=#[t,t] })
 (base : Nat) (e : TypeId) {i : TypeInfo} {z : Value} {size bytes : Nat} (ht : P.underlying t = some (.slice e)) (hi : P.info? e = some i) (hz : i.zero = some z)
 (hsize : i.size = size) (hby : i.bytes = bytes) (hzs : z.cells.size = size) (hsz : 0 < size)
 {v : Value} {n : Nat} {xs : List Value} (hs : a.eval s = v) (hown : w.ownsRow base e size v n xs)
 {A : Option Addr} {m c : Nat} {news : List Value} (hx : a.eval x = .slice A m c) (hr : Rd w size A m news) (h1 : ∀ u ∈ news,u.oneCell' = true)
 (hbytes : (n + m) * bytes ≤ 140737488355328) (hb1 : 0 < bytes) (hbase : base ≤ w.heap.size)
 (h : ∀ v' w',w'.ownsRow base e size v' (n + m) (xs ++ news) → w.grownBy w' v.ownBlock → (v'.ownBlock = v.ownBlock ∨ v'.ownBlock = some w.heap.size) ∧ (v = .slice none 0 0 → m = 0 → v' = v) → K (a.put o.dst v') w') : o.wp P a w K Q:=by
 obtain ⟨v',w',hrun,h2,h3,h4⟩:=run_append_rd (P:=P) (ty:=o.type) ht hi hz hsize hby hzs hsz hown c hr h1 hbytes hb1 hbase
 unfold Oper.wp execOp
 simp only [ho,resolve,invoke,builtin,Sem.run_bind,Sem.run_pure,Result.andThen_ok,List.map_toArray,List.map_cons,List.map_nil,hs,hx,hrun]
 exact h v' w' h2 h3 h4
theorem slice_from {P : Program} (t : TypeId) (size : Nat) (ht : P.underlying t = some (.slice (P.elem t))) (hs : ∀ W,(sizeOf (P.elem t)).run P W = .ok size W)
 (A : Option Addr) (n c k : Nat) (x : Int) (hx : x = k) (hk : k ≤ n) (hc : n ≤ c) :
 ∃ A',(∀ W,(Instr.slice t (.slice A n c) (some (.int .i64 x)) none none).run P W = .ok (.slice A' (n - k) (c - k)) W) ∧
   ∀ W xs,Rd W size A n xs → Rd W size A' (n - k) (xs.drop (k * size)):=by
 subst hx
 refine ⟨if c = k then A else A.map (·.add (k * size)),fun W => ?_,fun W xs h => h.drop hk hc⟩
 rw [run_slice_l (P:=P) W t A n c ht .i64 (k : Int) (by omega) (by omega),hs W]
 simp only [Result.andThen_ok,sliced,Int.toNat_natCast]
theorem ret_eq {a b : Value} (h : a = b) : Ending.returned a = .returned b:=by rw [h]
theorem below_a {w w1 : World} {o : Obj} (hb : Below (w.alloc o).heap.size (w.alloc o) w1) : Below w.heap.size w w1 :=
 ((Below.refl _ _).alloc (Nat.le_refl _) _).trans (hb.mono (by simp))
theorem alloc2_at (w : World) (A B : Obj) : ((w.alloc A).alloc B).heap[w.heap.size + 1]? = some B:=by
 have:=heap_alloc_new (w.alloc A) B
 rwa [show (w.alloc A).heap.size = w.heap.size + 1 by simp] at this
theorem alloc3_at (w : World) (A B C : Obj) : (((w.alloc A).alloc B).alloc C).heap[w.heap.size + 1 + 1]? = some C:=by
 have:=heap_alloc_new ((w.alloc A).alloc B) C
 rwa [show ((w.alloc A).alloc B).heap.size = w.heap.size + 1 + 1 by simp] at this
theorem flat_get {α : Type} (f : α → List Value) (sz : Nat) : ∀ (l : List α),(∀ x ∈ l,(f x).length = sz) → ∀ (i : Nat) (hi : i < l.length) (j : Nat),j < sz → (l.flatMap f)[i * sz + j]? = (f l[i])[j]?
 | [],_,i,hi,_,_ => by simp at hi
 | x :: l,hs,i,hi,j,hj => by
   have hx : (f x).length = sz:=hs x (by simp)
   rw [List.flatMap_cons]
   cases i with
   | zero =>
     rw [Nat.zero_mul,Nat.zero_add,List.getElem?_append_left (by omega)]
     rfl
   | succ i =>
     rw [List.getElem?_append_right (by rw [hx,Nat.succ_mul];omega),hx,show (i + 1) * sz + j - sz = i * sz + j by rw [Nat.succ_mul];omega]
     simpa using flat_get f sz l (fun y hy => hs y (by simp [hy])) i (by simpa using hi) j hj
structure Kept (S : Nat → Prop) (w w' : World) : Prop where
 os : w'.os = w.os
 tape : w'.tape = w.tape
 output : w'.output = w.output
 size : w.heap.size ≤ w'.heap.size
 block : ∀ k,k < w.heap.size → ¬ S k → w'.heap[k]? = w.heap[k]?
theorem Kept.refl (S : Nat → Prop) (w : World) : Kept S w w:=⟨rfl,rfl,rfl,Nat.le_refl _,fun _ _ _ => rfl⟩
theorem Kept.of_below {S : Nat → Prop} {w w' : World} (h : Below w.heap.size w w') : Kept S w w':=⟨h.os,h.tape,h.output,h.size,fun k hk _ => h.block k hk⟩
theorem Kept.mono {S T : Nat → Prop} {w w' : World} (h : Kept S w w') (hs : ∀ k,S k → T k) : Kept T w w':=⟨h.os,h.tape,h.output,h.size,fun k hk ht => h.block k hk fun hs' => ht (hs k hs')⟩
theorem Kept.below {S : Nat → Prop} {w w' : World} (h : Kept S w w') {B : Nat} (hB : B ≤ w.heap.size) (hs : ∀ k,k < B → ¬ S k) : Below B w w' :=
 ⟨h.os,h.tape,h.output,h.size,fun k hk => h.block k (by omega) (hs k hk)⟩
theorem Kept.trans {S : Nat → Prop} {a b c : World} (h : Kept S a b) (k : Kept S b c) : Kept S a c :=
 ⟨k.os.trans h.os,k.tape.trans h.tape,k.output.trans h.output,Nat.le_trans h.size k.size,fun i hi hs => (k.block i (by have:=h.size;omega) hs).trans (h.block i hi hs)⟩
theorem Kept.step {S : Nat → Prop} {a b c : World} (h : Kept S a b) (k : Below b.heap.size b c) : Kept S a c:=h.trans (.of_below k)
theorem Kept.alloc {S : Nat → Prop} {a b : World} (h : Kept S a b) (o : Obj) : Kept S a (b.alloc o):=h.step ((Below.refl _ _).alloc (Nat.le_refl _) _)
theorem Kept.grown {S : Nat → Prop} {a b c : World} {row : Option Nat} (h : Kept S a b) (hg : b.grownBy c row) (hr : ∀ k,row = some k → k < a.heap.size → S k) : Kept S a c:=by
 obtain ⟨h1,h2,h3,h4,h5⟩:=hg
 refine ⟨h1.trans h.os,h2.trans h.tape,h3.trans h.output,Nat.le_trans h.size h4,fun k hk hs => ?_⟩
 rw [h5 k (by have:=h.size;omega) (fun e => hs (hr k e.symm hk))]
 exact h.block k hk hs
theorem own_rd' {w : World} {base : Nat} {e : TypeId} {size n c : Nat} {A : Option Addr} {xs : List Value} (h : w.ownsRow base e size (.slice A n c) n xs) : n ≤ c ∧ Rd w size A n xs:=by
 obtain ⟨A',c',hv,h1,h2⟩:=own_rd h
 cases hv
 exact ⟨h1,h2⟩
theorem own_kept {w w' : World} {base : Nat} {e : TypeId} {size n : Nat} {v : Value} {xs : List Value} {S : Nat → Prop} (h : w.ownsRow base e size v n xs) (hb : Kept S w w') (hs : ∀ k,v.ownBlock = some k → ¬ S k) : w'.ownsRow base e size v n xs:=by
 obtain ⟨h1,h2⟩:=h
 rcases h2 with h2 | ⟨g,cap,cur,rfl,hg,hh,hrest⟩
 ·exact ⟨h1,.inl h2⟩
 ·exact ⟨h1,.inr ⟨g,cap,cur,rfl,hg,(hb.block g (Array.getElem?_eq_some_iff.1 hh).1 (hs g rfl)).trans hh,hrest⟩⟩
theorem ownsRow_mono' {w : World} {base base' : Nat} {e : TypeId} {size n : Nat} {v : Value} {xs : List Value} (h : w.ownsRow base e size v n xs) (hb : base' ≤ base) : w.ownsRow base' e size v n xs:=by
 obtain ⟨h1,h2 | ⟨g,cap,cur,hv,hg,hr⟩⟩:=h
 ·exact ⟨h1,.inl h2⟩
 ·exact ⟨h1,.inr ⟨g,cap,cur,hv,Nat.le_trans hb hg,hr⟩⟩
theorem own_type {w : World} {base : Nat} {e : TypeId} {size n : Nat} {v : Value} {xs : List Value} (h : w.ownsRow base e size v n xs) : ∀ k,v.ownBlock = some k → ∃ cs,w.heap[k]? = some (.cells cs e (0,0)):=by
 intro k hk
 rcases h.2 with ⟨rfl,_⟩ | ⟨g,cap,cur,rfl,_,hg,_⟩
 ·simp [Value.ownBlock] at hk
 ·simp only [Value.ownBlock,Option.some.injEq] at hk
  subst hk
  exact ⟨cur,hg⟩
theorem own_ne_block {w : World} {base : Nat} {e t : TypeId} {size n g : Nat} {v : Value} {xs : List Value} {cs : Array Value} {fr : Nat × Nat} (h : w.ownsRow base e size v n xs) (hg : w.heap[g]? = some (.cells cs t fr)) (he : e ≠ t) : v.ownBlock ≠ some g:=by
 intro hk
 obtain ⟨c,hc⟩:=own_type h g hk
 rw [hc] at hg
 simp only [Option.some.injEq,Obj.cells.injEq] at hg
 exact he hg.2.1
theorem Kept.setCell {S : Nat → Prop} {a b : World} (h : Kept S a b) {g o : Nat} (v : Value) (hg : S g ∨ a.heap.size ≤ g) : Kept S a (b.setCell ⟨g,o,none⟩ v) :=
 ⟨h.os,h.tape,h.output,by simpa using h.size,fun k hk hs => by
   rw [Below.heap_setCell _ _ _ _ (fun e => by
    have e : k = g:=e
    subst e
    rcases hg with hg | hg
    ·exact hs hg
    ·omega)]
   exact h.block k hk hs⟩
theorem one_row {w w1 : World} {cs : Array Value} {t : TypeId} (h : Below (w.alloc (.cells cs t)).heap.size (w.alloc (.cells cs t)) w1) : w1.heap[w.heap.size]? = some (.cells cs t (0,0)) :=
 (h.block _ (by simp)).trans (heap_alloc_new w _)
theorem own_empty (w : World) (e : TypeId) (size : Nat) (g : Nat) (hg : g = w.heap.size) (base : Nat) (hb : base ≤ g) : (w.alloc (.cells #[] e)).ownsRow base e size (.slice (some ⟨g,0,none⟩) 0 0) 0 []:=by
 subst hg
 exact ⟨by simp,.inr ⟨w.heap.size,0,#[],rfl,hb,heap_alloc_new w _,Nat.le_refl _,by decide,by simp,by simp⟩⟩
end
section
open Go.RowKit
section
variable {P : Program} {ops : Array Oper} {Q : Exit → Act → World → Prop} {S : World → Prop}
def schedOk (ops : Array Oper) : List (Nat × Bool) → Array Bool → Bool
 | [],l => (Region.ready .any ops l).isEmpty
 | (i,true) :: r,l => Region.free .any ops l i && (Region.ready .any ops l).contains i && schedOk ops r (l.setIfInBounds i true)
 | (i,false) :: r,l => (Region.ready .any ops l == [i]) && schedOk ops r (l.setIfInBounds i true)
def wpSched (P : Program) (ops : Array Oper) (Q : Exit → Act → World → Prop) (S : World → Prop) : List (Nat × Bool) → Act → World → Prop
 | [],a,w => Q .normal a w
 | (i,true) :: r,a,w => ∃ o v,ops[i]? = some o ∧ YieldsIf P ops S o v a ∧ wpSched P ops Q S r (a.put o.dst v) w
 | (i,false) :: r,a,w => wpOp P ops Q i (fun a' w' => S w' ∧ wpSched P ops Q S r a' w') a w
theorem wpAnyH_of_sched (hs : Region.noSelect ops = true) (hQ : ∀ c (a : Act) d v w,Q (.panic c) (a.put d v) w → Q (.panic c) a w) : ∀ (l : List (Nat × Bool)) (listed : Array Bool) (a : Act) (w : World),
 schedOk ops l listed = true → S w → wpSched P ops Q S l a w → wpAnyH P .any ops Q S l.length listed a w
 | [],listed,a,w,h,_,hw => ⟨by simpa [schedOk] using h,hw⟩
 | (i,true) :: r,listed,a,w,h,hS,hw => by
   obtain ⟨o,v,hi,hy,hw⟩:=hw
   simp only [schedOk,Bool.and_eq_true] at h
   exact wpAnyH_take hi hs h.1.1 h.1.2 (fun c a w => hQ c a _ _ w) hy hS (wpAnyH_of_sched hs hQ r _ _ w h.2 hS hw)
 | (i,false) :: r,listed,a,w,h,hS,hw => by
   simp only [schedOk,Bool.and_eq_true,beq_iff_eq] at h
   refine wpAnyH_all h.1 (by simp) (fun j hj => ?_)
   obtain rfl : j = i:=by simpa using hj
   exact wpOp_mono (fun a' w' h' => ⟨h'.1,wpAnyH_of_sched hs hQ r _ a' w' h.2 h'.1 h'.2⟩) hw
theorem wp_region_sched {id : Nat} {a : Act} {w : World} (sched : List (Nat × Bool)) (hm : P.follows .mixedOrders = true) (hl : (sched.length == ops.size) = true)
 (hok : (schedOk ops sched (Array.replicate ops.size false) && Region.noSelect ops) = true) (hQ : ∀ c (a : Act) d v w,Q (.panic c) (a.put d v) w → Q (.panic c) a w) (hS : S w.drew) (h : wpSched P ops Q S sched a w.drew) :
 (Code.region id ops true).wp P Q a w:=by
 simp only [Bool.and_eq_true] at hok
 refine wp_region_held_drew (S:=S) hm hS fun hS => ?_
 have:=wpAnyH_of_sched hok.2 hQ sched _ a _ hok.1 hS h
 rwa [beq_iff_eq.1 hl] at this
theorem at_drop {i : Nat} {o : Oper} {t : List Oper} (h : ops.toList.drop i = o :: t) : ops[i]? = some o:=by
 have:=congrArg List.head? h
 simpa [List.head?_drop] using this
theorem sched_take {i : Nat} {o : Oper} {v : Value} {r : List (Nat × Bool)} {a : Act} {w : World} {t : List Oper} (ho : ops.toList.drop i = o :: t) (hw : Region.wanted o (yielded ops a.tmps) = true)
 (h1 : ∀ w,S w → (execOp a.eval o).run P w = .ok (.value v) w) (h : wpSched P ops Q S r (a.put o.dst v) w) : wpSched P ops Q S ((i,true) :: r) a w :=
 ⟨o,v,at_drop ho,.inl ⟨hw,h1⟩,h⟩
theorem sched_done {a : Act} {w : World} (h : Q .normal a w) : wpSched P ops Q S [] a w:=h
theorem sched_pass {i : Nat} {o : Oper} {r : List (Nat × Bool)} {a : Act} {w : World} {t : List Oper} (ho : ops.toList.drop i = o :: t) (hw : Region.wanted o (yielded ops a.tmps) = false)
 (h : wpSched P ops Q S r (a.put o.dst undef) w) : wpSched P ops Q S ((i,true) :: r) a w :=
 ⟨o,undef,at_drop ho,.inr ⟨hw,rfl⟩,h⟩
theorem sched_run {i : Nat} {o : Oper} {r : List (Nat × Bool)} {a : Act} {w : World} {t : List Oper} (ho : ops.toList.drop i = o :: t) (hw : Region.wanted o (yielded ops a.tmps) = true)
 (h : ∀ K' : Act → World → Prop,Shut (∀ a w,S w → (S w → wpSched P ops Q S r a w) → K' a w) → Oper.wp P o a w K' Q) : wpSched P ops Q S ((i,false) :: r) a w:=by
 refine wpOp_step (at_drop ho) (fun K' hK => ?_)
 rw [if_pos hw]
 exact h K' (fun a w hS hW => hK a w ⟨hS,hW hS⟩)
end
def RowAt (w : World) (g n : Nat) (t : TypeId) : Prop:=∃ cs,w.heap[g]? = some (.cells cs t (0,0)) ∧ cs.size = n
theorem RowAt.setRow {w : World} {g n : Nat} {t : TypeId} (h : RowAt w g n t) (cs : Array Value) (hn : cs.size = n) : RowAt (w.setRow g cs) g n t ∧ (w.setRow g cs).heap[g]? = some (.cells cs t (0,0)):=by
 obtain ⟨old,h,_⟩:=h
 exact ⟨⟨cs,setRow_block _ _ _ _ _ _ h,hn⟩,setRow_block _ _ _ _ _ _ h⟩
theorem RowAt.below {w w' : World} {g n : Nat} {t : TypeId} (h : RowAt w g n t) (hb : Below w.heap.size w w') : RowAt w' g n t:=by
 obtain ⟨cs,h,hn⟩:=h
 exact ⟨cs,(hb.block g (Array.getElem?_eq_some_iff.1 h).1).trans h,hn⟩
theorem RowAt.lt {w : World} {g n : Nat} {t : TypeId} (h : RowAt w g n t) : g < w.heap.size:=by
 obtain ⟨cs,h,_⟩:=h
 exact (Array.getElem?_eq_some_iff.1 h).1
def Box (g n : Nat) (t : TypeId) (w0 w : World) : Prop:=Below g w0 w ∧ RowAt w g n t
theorem Box.drew {g n : Nat} {t : TypeId} {w0 w : World} (h : Box g n t w0 w) : Box g n t w0 w.drew:=⟨h.1.drew,h.2⟩
theorem Box.step {g n : Nat} {t : TypeId} {w0 w w' : World} (h : Box g n t w0 w) (hb : Below w.heap.size w w') : Box g n t w0 w' :=
 ⟨h.1.trans (hb.mono (Nat.le_of_lt h.2.lt)),h.2.below hb⟩
theorem Box.setRow {g n : Nat} {t : TypeId} {w0 w : World} (h : Box g n t w0 w) (cs : Array Value) (hn : cs.size = n) : Box g n t w0 (w.setRow g cs) :=
 ⟨below_setRow h.1 (Nat.le_refl _) _,(h.2.setRow cs hn).1⟩
theorem wp_store_box {P : Program} {o : Oper} {a : Act} {w w0 : World} {K : Act → World → Prop} {Q : Exit → Act → World → Prop} {g n : Nat} {t : TypeId} (h0 : Box g n t w0 w) (ty : TypeId) (x y : Operand) (ho : o.op = .store ty x y)
 (cells : Array Value) (hx : a.eval x = .pointer (some ⟨g,0,none⟩)) (hy : a.eval y = .agg cells) (hi : (P.info? ty).map (·.size) = some n)
 (hn : cells.size = n) (h1 : cells.all (·.oneCell') = true)
 (h : K (a.put o.dst undef) (w.setRow g cells)) : o.wp P a w K Q:=by
 obtain ⟨old,hg,hsz⟩:=h0.2
 exact wp_store_row ty x y ho g cells hx hy t old hg (by rw [hi,hn]) (hsz.trans hn.symm) h1 h
inductive Sch where
 | done
 | take (i : Nat) (r : Sch)
 | run (i : Nat) (r : Sch)
 | two (i j : Nat) (r s : Sch)
def Sch.depth : Sch → Nat
 | .done => 0
 | .take _ r => r.depth + 1
 | .run _ r => r.depth + 1
 | .two _ _ r _ => r.depth + 1
section
variable {P : Program} {ops : Array Oper} {Q : Exit → Act → World → Prop} {S : World → Prop}
def Sch.ok (ops : Array Oper) : Sch → Array Bool → Bool
 | .done,l => (Region.ready .any ops l).isEmpty
 | .take i r,l => Region.free .any ops l i && (Region.ready .any ops l).contains i && r.ok ops (l.setIfInBounds i true)
 | .run i r,l => (Region.ready .any ops l == [i]) && r.ok ops (l.setIfInBounds i true)
 | .two i j r s,l => (Region.ready .any ops l == [i,j]) && (r.depth == s.depth) && r.ok ops (l.setIfInBounds i true) && s.ok ops (l.setIfInBounds j true)
def wpTree (P : Program) (ops : Array Oper) (Q : Exit → Act → World → Prop) (S : World → Prop) : Sch → Act → World → Prop
 | .done,a,w => Q .normal a w
 | .take i r,a,w => ∃ o v,ops[i]? = some o ∧ YieldsIf P ops S o v a ∧ wpTree P ops Q S r (a.put o.dst v) w
 | .run i r,a,w => wpOp P ops Q i (fun a' w' => S w' ∧ wpTree P ops Q S r a' w') a w
 | .two i j r s,a,w => wpOp P ops Q i (fun a' w' => S w' ∧ wpTree P ops Q S r a' w') a w ∧ wpOp P ops Q j (fun a' w' => S w' ∧ wpTree P ops Q S s a' w') a w
theorem wpAnyH_of_tree (hs : Region.noSelect ops = true) (hQ : ∀ c (a : Act) d v w,Q (.panic c) (a.put d v) w → Q (.panic c) a w) : ∀ (t : Sch) (listed : Array Bool) (a : Act) (w : World),
 t.ok ops listed = true → S w → wpTree P ops Q S t a w → wpAnyH P .any ops Q S t.depth listed a w
 | .done,listed,a,w,h,_,hw => ⟨by simpa [Sch.ok] using h,hw⟩
 | .take i r,listed,a,w,h,hS,hw => by
   obtain ⟨o,v,hi,hy,hw⟩:=hw
   simp only [Sch.ok,Bool.and_eq_true] at h
   exact wpAnyH_take hi hs h.1.1 h.1.2 (fun c a w => hQ c a _ _ w) hy hS (wpAnyH_of_tree hs hQ r _ _ w h.2 hS hw)
 | .run i r,listed,a,w,h,hS,hw => by
   simp only [Sch.ok,Bool.and_eq_true,beq_iff_eq] at h
   refine wpAnyH_all h.1 (by simp) (fun j hj => ?_)
   obtain rfl : j = i:=by simpa using hj
   exact wpOp_mono (fun a' w' h' => ⟨h'.1,wpAnyH_of_tree hs hQ r _ a' w' h.2 h'.1 h'.2⟩) hw
 | .two i j r s,listed,a,w,h,hS,hw => by
   simp only [Sch.ok,Bool.and_eq_true,beq_iff_eq] at h
   refine wpAnyH_all h.1.1.1 (by simp) (fun k hk => ?_)
   simp only [List.mem_cons,List.not_mem_nil,or_false] at hk
   rcases hk with rfl | rfl
   ·exact wpOp_mono (fun a' w' h' => ⟨h'.1,wpAnyH_of_tree hs hQ r _ a' w' h.1.2 h'.1 h'.2⟩) hw.1
   ·refine wpOp_mono (fun a' w' h' => ⟨h'.1,?_⟩) hw.2
    have:=wpAnyH_of_tree hs hQ s _ a' w' h.2 h'.1 h'.2
    rwa [← h.1.1.2] at this
theorem wp_region_tree {id : Nat} {a : Act} {w : World} (t : Sch) (hm : P.follows .mixedOrders = true) (hl : (t.depth == ops.size) = true)
 (hok : (t.ok ops (Array.replicate ops.size false) && Region.noSelect ops) = true) (hQ : ∀ c (a : Act) d v w,Q (.panic c) (a.put d v) w → Q (.panic c) a w) (hS : S w.drew) (h : wpTree P ops Q S t a w.drew) :
 (Code.region id ops true).wp P Q a w:=by
 simp only [Bool.and_eq_true] at hok
 refine wp_region_held_drew (S:=S) hm hS fun hS => ?_
 have:=wpAnyH_of_tree hok.2 hQ t _ a _ hok.1 hS h
 rwa [beq_iff_eq.1 hl] at this
theorem tree_take {i : Nat} {o : Oper} {v : Value} {r : Sch} {a : Act} {w : World} {t : List Oper} (ho : ops.toList.drop i = o :: t) (hw : Region.wanted o (yielded ops a.tmps) = true)
 (h1 : ∀ w,S w → (execOp a.eval o).run P w = .ok (.value v) w) (h : wpTree P ops Q S r (a.put o.dst v) w) : wpTree P ops Q S (.take i r) a w :=
 ⟨o,v,at_drop ho,.inl ⟨hw,h1⟩,h⟩
theorem tree_done {a : Act} {w : World} (h : Q .normal a w) : wpTree P ops Q S .done a w:=h
theorem tree_run {i : Nat} {o : Oper} {r : Sch} {a : Act} {w : World} {t : List Oper} (ho : ops.toList.drop i = o :: t) (hw : Region.wanted o (yielded ops a.tmps) = true)
 (h : ∀ K' : Act → World → Prop,Shut (∀ a w,S w → (S w → wpTree P ops Q S r a w) → K' a w) → Oper.wp P o a w K' Q) : wpTree P ops Q S (.run i r) a w:=by
 refine wpOp_step (at_drop ho) (fun K' hK => ?_)
 rw [if_pos hw]
 exact h K' (fun a w hS hW => hK a w ⟨hS,hW hS⟩)
theorem tree_two {i j : Nat} {r s : Sch} {a : Act} {w : World} (h1 : wpTree P ops Q S (.run i r) a w) (h2 : wpTree P ops Q S (.run j s) a w) : wpTree P ops Q S (.two i j r s) a w:=⟨h1,h2⟩
end
theorem region_mid {P : Program} {c : Code} {Q : Exit → Act → World → Prop} {a : Act} {w : World} {α : Type} (F : α → Act → Act) (G : α → World → Prop)
 (h1 : c.wp P (fun e a' w' => ∃ x,e = .normal ∧ a' = F x a ∧ G x w') a w) (h2 : ∀ x w',G x w' → Q .normal (F x a) w') : c.wp P Q a w :=
 wp_mono h1 (by rintro e a' w' ⟨x,rfl,rfl,hG⟩;exact h2 x w' hG)
end
end Go.Proofs.YtonjgedhmmnolaaGreatDoor
section
namespace Go.Proofs.YtonjgedhmmnolaaGreatDoor
open Go.RowKit
set_option maxRecDepth 100000
theorem Ld {p : Prop} (h : p) : RowKit.Hid p := Lib.hid h
inductive ItemD where
 | mk (k : Int) (b : Bool) (n : Int) (f : Nat) (t : ByteArray) (l : List ItemD)
inductive VI where
 | mk (k : Int) (b : Bool) (n : Int) (f : Nat) (t : ByteArray) (A : Option Addr) (c : Nat) (l : List VI)
namespace ItemD
def k : ItemD → Int | .mk k .. => k
def b : ItemD → Bool | .mk _ b .. => b
def n : ItemD → Int | .mk _ _ n .. => n
def f : ItemD → Nat | .mk _ _ _ f .. => f
def t : ItemD → ByteArray | .mk _ _ _ _ t _ => t
def l : ItemD → List ItemD | .mk _ _ _ _ _ l => l
end ItemD
namespace VI
def k : VI → Int | .mk k .. => k
def b : VI → Bool | .mk _ b .. => b
def n : VI → Int | .mk _ _ n .. => n
def f : VI → Nat | .mk _ _ _ f .. => f
def t : VI → ByteArray | .mk _ _ _ _ t .. => t
def A : VI → Option Addr | .mk _ _ _ _ _ A .. => A
def c : VI → Nat | .mk _ _ _ _ _ _ c _ => c
def l : VI → List VI | .mk _ _ _ _ _ _ _ l => l
def cells (x : VI) : List Value:=[.int .u8 x.k,.bool x.b,.int .i64 x.n,.float .f64 x.f,.string x.t,.slice x.A x.l.length x.c]
def val (x : VI) : Value:=.agg #[.int .u8 x.k,.bool x.b,.int .i64 x.n,.float .f64 x.f,.string x.t,.slice x.A x.l.length x.c]
end VI
mutual
def VI.data : VI → ItemD
 | .mk k b n f t _ _ l => .mk k b n f t (VI.dataL l)
def VI.dataL : List VI → List ItemD
 | [] => []
 | x :: l => x.data :: VI.dataL l
end
theorem dataL_eq : ∀ l : List VI,VI.dataL l = l.map VI.data
 | [] => by simp [VI.dataL]
 | x :: l => by simp [VI.dataL,dataL_eq l]
theorem data_k (x : VI) : x.data.k = x.k:=by cases x;simp [VI.data,ItemD.k,VI.k]
theorem data_f (x : VI) : x.data.f = x.f:=by cases x;simp [VI.data,ItemD.f,VI.f]
theorem data_t (x : VI) : x.data.t = x.t:=by cases x;simp [VI.data,ItemD.t,VI.t]
def icells (l : List VI) : List Value:=l.flatMap VI.cells
structure Thr where
 n : Nat
def thr [Inhabited Thr] : Nat:=(default : Thr).n
def OwnK (w : World) (b o c : Nat) : Prop:=o = 0 ∧ c ≤ maxLen ∧ ∃ cs,w.heap[b]? = some (.cells cs 54 (0,0)) ∧ cs.size = c * 6
theorem OwnK.lt {w : World} {b o c : Nat} (h : OwnK w b o c) : b < w.heap.size:=by
 obtain ⟨_,_,cs,h1,_⟩:=h
 exact (Array.getElem?_eq_some_iff.1 h1).1
theorem OwnK.block {w w' : World} {b o c : Nat} (h : OwnK w b o c) (e : w'.heap[b]? = w.heap[b]?) : OwnK w' b o c:=by
 obtain ⟨h0,hm,cs,h1,h2⟩:=h
 exact ⟨h0,hm,cs,e.trans h1,h2⟩
theorem OwnK.below {w w' : World} {b o c : Nat} (h : OwnK w b o c) (hb : Below w.heap.size w w') : OwnK w' b o c:=h.block (hb.block _ h.lt)
theorem own_hw {w : World} {B n c : Nat} {A : Option Addr} {xs : List Value} (h : w.ownsRow B 54 6 (.slice A n c) n xs) : ∀ b o,A = some ⟨b,o,none⟩ → OwnK w b o c:=by
 intro b o e
 subst e
 rcases h.2 with ⟨h1,_⟩ | ⟨g,cap,cur,h1,_,hg,_,hm,hs,_⟩
 ·cases h1
 ·cases h1
  exact ⟨rfl,hm,cur,hg,hs⟩
inductive RdV [Inhabited Thr] (w : World) : VI → Prop
 | mk (x : VI) (hl : Rd w 6 x.A x.l.length (icells x.l)) (hc : x.l.length ≤ x.c) (hb : x.l.length * 64 ≤ 140737488355328) (ht : x.t.size ≤ 140737488355328)
     (hk : 0 ≤ x.k ∧ x.k ≤ 255) (hf : x.f < 18446744073709551616) (hn : -9223372036854775808 ≤ x.n ∧ x.n ≤ 9223372036854775807) (hx : ∀ y ∈ x.l,RdV w y)
     (hw : 0 < x.l.length → ∀ b o,x.A = some ⟨b,o,none⟩ → thr ≤ b → OwnK w b o x.c) : RdV w x
structure RdI [Inhabited Thr] (w : World) (A : Option Addr) (c : Nat) (l : List VI) : Prop where
 rd : Rd w 6 A l.length (icells l)
 hc : l.length ≤ c
 hb : l.length * 64 ≤ 140737488355328
 hx : ∀ y ∈ l,RdV w y
section
variable {w w' : World} {x : VI} {A : Option Addr} {c : Nat} {l : List VI}
theorem RdV.list [Inhabited Thr] (h : RdV w x) : RdI w x.A x.c x.l:=by
 cases h with | mk _ hl hc hb ht hk hf hn hx hw => exact ⟨hl,hc,hb,hx⟩
theorem RdV.ht [Inhabited Thr] (h : RdV w x) : x.t.size ≤ 140737488355328:=by cases h;assumption
theorem RdV.hk [Inhabited Thr] (h : RdV w x) : 0 ≤ x.k ∧ x.k ≤ 255:=by cases h;assumption
theorem RdV.hf [Inhabited Thr] (h : RdV w x) : x.f < 18446744073709551616:=by cases h;assumption
theorem RdV.hn [Inhabited Thr] (h : RdV w x) : -9223372036854775808 ≤ x.n ∧ x.n ≤ 9223372036854775807:=by cases h;assumption
theorem RdV.grow [Inhabited Thr] (h : RdV w x) (hb : Below w.heap.size w w') : RdV w' x:=by
 induction h with
 | mk x hl hc hbb ht hk hf hn hx hw ih => exact .mk x (hl.below hb) hc hbb ht hk hf hn ih (fun h0 b o e h => (hw h0 b o e h).below hb)
theorem RdV.hw [Inhabited Thr] (h : RdV w x) : 0 < x.l.length → ∀ b o,x.A = some ⟨b,o,none⟩ → thr ≤ b → OwnK w b o x.c:=by cases h;assumption
theorem RdI.below [Inhabited Thr] (h : RdI w A c l) (hb : Below w.heap.size w w') : RdI w' A c l:=⟨h.rd.below hb,h.hc,h.hb,fun y hy => (h.hx y hy).grow hb⟩
theorem icells_len (l : List VI) : (icells l).length = l.length * 6:=by
 induction l with
 | nil => rfl
 | cons x l ih => simp only [icells,List.flatMap_cons,List.length_append,List.length_cons] at ih ⊢;rw [ih];simp [VI.cells];omega
theorem icells_append (a b : List VI) : icells (a ++ b) = icells a ++ icells b:=List.flatMap_append
theorem item_at {b o : Nat} (h : Rd w 6 (some ⟨b,o,none⟩) l.length (icells l)) {k : Nat} (hk : k < l.length) :
 w.cell? ⟨b,o + k * 6,none⟩ = some (.int .u8 l[k].k) ∧ w.cell? ⟨b,o + k * 6 + 1,none⟩ = some (.bool l[k].b) ∧ w.cell? ⟨b,o + k * 6 + 2,none⟩ = some (.int .i64 l[k].n) ∧
 w.cell? ⟨b,o + k * 6 + 3,none⟩ = some (.float .f64 l[k].f) ∧ w.cell? ⟨b,o + k * 6 + 4,none⟩ = some (.string l[k].t) ∧ w.cell? ⟨b,o + k * 6 + 5,none⟩ = some (.slice l[k].A l[k].l.length l[k].c):=by
 obtain ⟨b',o',e,hc⟩:=h.2 (by omega)
 cases e
 have hp:=flat_get VI.cells 6 l (fun _ _ => rfl) k hk
 refine ⟨?_,?_,?_,?_,?_,?_⟩
 ·exact hc _ _ (by rw [show k * 6 = k * 6 + 0 from rfl];exact (hp 0 (by decide)).trans rfl)
 ·rw [Nat.add_assoc];exact hc _ _ ((hp 1 (by decide)).trans rfl)
 ·rw [Nat.add_assoc];exact hc _ _ ((hp 2 (by decide)).trans rfl)
 ·rw [Nat.add_assoc];exact hc _ _ ((hp 3 (by decide)).trans rfl)
 ·rw [Nat.add_assoc];exact hc _ _ ((hp 4 (by decide)).trans rfl)
 ·rw [Nat.add_assoc];exact hc _ _ ((hp 5 (by decide)).trans rfl)
end
theorem sz_lt {x : VI} {l : List VI} (h : x ∈ l) : SizeOf.sizeOf x < SizeOf.sizeOf l:=List.sizeOf_lt_of_mem h
theorem sz_list (x : VI) : SizeOf.sizeOf x.l < SizeOf.sizeOf x:=by cases x;simp [VI.l];omega
theorem infoI : (Tryz.prog.info? 54).map (fun i => (i.zero,i.size,i.bytes)) = some (some (.agg #[.int .u8 0,.bool false,.int .i64 0,.float .f64 0,.string ⟨#[]⟩,.slice none 0 0]),6,64):=by kernel_rfl
end Go.Proofs.YtonjgedhmmnolaaGreatDoor
end
