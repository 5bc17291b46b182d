import Derived.Test.YtonjgedhmmnolaaGreatDoorRA0
import Derived.Test.YtonjgedhmmnolaaGreatDoorZ14
import Derived.Deep.Slices
import Derived.SizedLaws
import Derived.OpenShut
namespace Go.Proofs.YtonjgedhmmnolaaGreatDoor
section
open Go.ChangeShapes Go.WideShapes Go.ChangeAt Go.RowKit Go.Deep
set_option maxRecDepth 100000
theorem chunk_list {α : Type} (f : α → List Value) (size : Nat) (Q : α → Prop) (hf : ∀ a,Q a → (f a).length = size) : ∀ (n : Nat) (xs : List Value),xs.length = n * size →
 (∀ i,i < n → ∃ a,Q a ∧ (xs.drop (i * size)).take size = f a) → ∃ l : List α,l.length = n ∧ l.flatMap f = xs ∧ ∀ a ∈ l,Q a
 | 0,xs,hl,_ => ⟨[],rfl,(List.eq_nil_of_length_eq_zero (by simpa using hl)).symm,fun a ha => by simp at ha⟩
 | n + 1,xs,hl,h => by
   obtain ⟨a,hq,ha⟩:=h 0 (by omega)
   obtain ⟨l,hl1,hl2,hl3⟩:=chunk_list f size Q hf n (xs.drop size) (by rw [List.length_drop,hl,Nat.succ_mul];omega) (fun i hi => by
    obtain ⟨a,hq,ha⟩:=h (i + 1) (by omega)
    refine ⟨a,hq,?_⟩
    rw [List.drop_drop,← ha,Nat.succ_mul,Nat.add_comm])
   refine ⟨a :: l,by simp [hl1],?_,?_⟩
   ·rw [List.flatMap_cons,hl2,← ha]
    simp
   ·intro b hb
    rcases List.mem_cons.1 hb with rfl | hb
    ·exact hq
    ·exact hl3 b hb
theorem weightsAll_mem {H : Type} {P : Program} {e : TypeId} : ∀ {l : List (DataW H)} {d : DataW H},d ∈ l → ∀ n ∈ d.weights P e,n ∈ DataW.weightsAll P e l
 | [],_,h,_,_ => by simp at h
 | d0 :: l,d,h,n,hn => by
   simp only [DataW.weightsAll,List.mem_append]
   rcases List.mem_cons.1 h with rfl | h
   ·exact .inl hn
   ·exact .inr (weightsAll_mem h n hn)
theorem sum_same (size : Nat) : ∀ l : List Nat,(l.map (fun _ => size)).sum = l.length * size
 | [] => by simp
 | a :: l => by simp only [List.map_cons,List.sum_cons,List.length_cons,sum_same size l,Nat.succ_mul];omega
theorem trod_float {H : Type} {enc : TypeId × Value → H} {P : Program} {w : World} {base : Nat} {spare : Nat → Bool} {held : Bool} {fuel : Nat} {t : TypeId} {cs : List Value} {x : DataW H × List MemPlace} {k : FloatKind} (ht : P.underlying t = some (.float k)) (h : DataW.trod enc P w base spare held fuel t cs = some x) :
 ∃ n,cs = [.float k n] ∧ x = (.lit (.float k n),[]) ∧ (Lit.float k n).wf = true:=by
 cases fuel with
 | zero => simp [DataW.trod] at h
 | succ n =>
   unfold DataW.trod at h
   rw [ht] at h
   split at h <;> simp_all
section
variable {H : Type} {enc : TypeId × Value → H} {W : World}
theorem open_rd {t e : TypeId} {size fuel : Nat} {cs : List Value} {x : DataW H × List MemPlace} (ht : Tryz.prog.underlying t = some (.slice e)) (hc : Tryz.prog.cellsOf e = size) (hs0 : 0 < size)
 (h : DataW.trod enc Tryz.prog W 0 (fun _ => true) true fuel t cs = some x) (wt : ∀ n ∈ x.1.weights Tryz.prog t,n ≤ reachBytes) :
 ∃ A n c xs,cs = [.slice A n c] ∧ n ≤ c ∧ c * Tryz.prog.bytesOf e ≤ reachBytes ∧ Rd W size A n xs ∧
   ∀ i,i < n → ∃ cs' m y,(xs.drop (i * size)).take size = cs' ∧ cs'.length = size ∧ DataW.trod enc Tryz.prog W 0 (fun _ => true) true m e cs' = some y ∧ (∀ k ∈ y.1.weights Tryz.prog e,k ≤ reachBytes) ∧ SizeOf.sizeOf y.1 < SizeOf.sizeOf x.1:=by
 rcases open_slice ht h with ⟨rfl,rfl⟩ | ⟨a,len,cap,m,n,D,Pl,rfl,_,hl,_,hmm,rfl,hx⟩
 ·exact ⟨none,0,0,[],rfl,Nat.le_refl _,by simp,⟨by simp,fun h => absurd h (by omega)⟩,fun i hi => absurd hi (by omega)⟩
 ·simp only [if_true] at hmm
  subst hmm
  rw [hc] at hx
  have hC : ∃ C : Nat → List Value,∀ i,i < m → W.cells? 0 (a.add (i * size)) size = some (C i) ∧ DataW.trod enc Tryz.prog W 0 (fun _ => true) true n e (C i) = some (D i,Pl i) :=
   ⟨fun i => if h : i < m then Classical.choose (hx i h) else [],fun i hi => by simp only [dif_pos hi];exact Classical.choose_spec (hx i hi)⟩
  obtain ⟨C,hC⟩:=hC
  have hCl : ∀ i,i < m → (C i).length = size:=fun i hi => (World.cells?_some (hC i hi).1).2.1
  have hCc : ∀ i,i < m → ∀ r,r < size → W.cell? ((a.add (i * size)).add r) = (C i)[r]?:=fun i hi => (World.cells?_some (hC i hi).1).2.2
  have hget : ∀ i,i < len → ∀ r,r < size → ((List.range len).flatMap C)[i * size + r]? = (C i)[r]?:=fun i hi r hr => by
   have:=flat_get C size (List.range len) (fun j hj => hCl j (by have:=List.mem_range.1 hj;omega)) i (by simpa using hi) r hr
   simpa using this
  have hlen : ((List.range len).flatMap C).length = len * size:=by
   rw [List.length_flatMap,List.map_congr_left (g:=fun _ => size) (fun j hj => hCl j (by have:=List.mem_range.1 hj;omega))]
   rw [sum_same,List.length_range]
  refine ⟨some a,len,m,(List.range len).flatMap C,rfl,hl,?_,⟨hlen,fun h0 => ?_⟩,fun i hi => ?_⟩
  ·refine wt _ ?_
   simp only [DataW.weights,ht,List.mem_cons]
   left
   simp only [List.length_map,List.length_range]
   rw [show len + (m - len) = m by omega]
  ·have hspot : a.spot = none:=by
     have h1:=hCc 0 (by omega) 0 hs0
     rw [List.getElem?_eq_getElem (by rw [hCl 0 (by omega)];exact hs0)] at h1
     cases hsp : a.spot with
     | none => rfl
     | some s =>
       have : W.cell? a = none:=by simp only [World.cell?,hsp,Option.isSome_some,if_true];split <;> rfl
       simp [Addr.add,this] at h1
   obtain ⟨b,o,s⟩:=a
   simp only at hspot
   subst hspot
   refine ⟨b,o,rfl,fun j u hu => ?_⟩
   have hj : j < len * size:=by rw [← hlen];exact (List.getElem?_eq_some_iff.1 hu).1
   have hd : j / size < len:=(Nat.div_lt_iff_lt_mul hs0).2 hj
   have hr : j % size < size:=Nat.mod_lt _ hs0
   have hje : j = j / size * size + j % size:=by rw [Nat.mul_comm];exact (Nat.div_add_mod j size).symm
   rw [hje,hget _ hd _ hr] at hu
   have:=hCc (j / size) (by omega) (j % size) hr
   rw [Addr.add_mid,Addr.add_mid,Nat.add_assoc,← hje,hu] at this
   exact this
  ·refine ⟨C i,n,(D i,Pl i),?_,hCl i (by omega),(hC i (by omega)).2,fun k hk => wt k ?_,?_⟩
   ·apply List.ext_getElem?
    intro r
    by_cases hr : r < size
    ·rw [List.getElem?_take,if_pos hr,List.getElem?_drop]
     exact hget i hi r hr
    ·rw [List.getElem?_take,if_neg hr,List.getElem?_eq_none (by rw [hCl i (by omega)];omega)]
   ·simp only [DataW.weights,ht,List.mem_cons,List.mem_append]
    right;left
    exact weightsAll_mem (List.mem_map.2 ⟨i,List.mem_range.2 hi,rfl⟩) k hk
   ·have h1:=List.sizeOf_lt_of_mem (show D i ∈ (List.range len).map D from List.mem_map.2 ⟨i,List.mem_range.2 hi,rfl⟩)
    simp only [DataW.slice.sizeOf_spec]
    omega
end
end
section
open Go.ChangeShapes Go.WideShapes Go.ChangeAt Go.RowKit Go.Deep
set_option maxRecDepth 100000
set_option maxHeartbeats 1000000
theorem list2 {α : Type} {l : List α} (h : l.length = 2) : ∃ a0 a1,l = [a0,a1]:=by
 match l,h with
 | [a0,a1],_ => exact ⟨a0,a1,rfl⟩
theorem list3 {α : Type} {l : List α} (h : l.length = 3) : ∃ a0 a1 a2,l = [a0,a1,a2]:=by
 match l,h with
 | [a0,a1,a2],_ => exact ⟨a0,a1,a2,rfl⟩
theorem list6 {α : Type} {l : List α} (h : l.length = 6) : ∃ a0 a1 a2 a3 a4 a5,l = [a0,a1,a2,a3,a4,a5]:=by
 match l,h with
 | [a0,a1,a2,a3,a4,a5],_ => exact ⟨a0,a1,a2,a3,a4,a5,rfl⟩
theorem list8 {α : Type} {l : List α} (h : l.length = 8) : ∃ a0 a1 a2 a3 a4 a5 a6 a7,l = [a0,a1,a2,a3,a4,a5,a6,a7]:=by
 match l,h with
 | [a0,a1,a2,a3,a4,a5,a6,a7],_ => exact ⟨a0,a1,a2,a3,a4,a5,a6,a7,rfl⟩
theorem list9 {α : Type} {l : List α} (h : l.length = 9) : ∃ a0 a1 a2 a3 a4 a5 a6 a7 a8,l = [a0,a1,a2,a3,a4,a5,a6,a7,a8]:=by
 match l,h with
 | [a0,a1,a2,a3,a4,a5,a6,a7,a8],_ => exact ⟨a0,a1,a2,a3,a4,a5,a6,a7,a8,rfl⟩
theorem list17 {α : Type} {l : List α} (h : l.length = 17) : ∃ a0 a1 a2 a3 a4 a5 a6 a7 a8 a9 a10 a11 a12 a13 a14 a15 a16,l = [a0,a1,a2,a3,a4,a5,a6,a7,a8,a9,a10,a11,a12,a13,a14,a15,a16]:=by
 match l,h with
 | [a0,a1,a2,a3,a4,a5,a6,a7,a8,a9,a10,a11,a12,a13,a14,a15,a16],_ => exact ⟨a0,a1,a2,a3,a4,a5,a6,a7,a8,a9,a10,a11,a12,a13,a14,a15,a16,rfl⟩
theorem cells_kind : Tryz.prog.cellsOf 51 = 1:=by kernel_rfl
theorem cells_bool : Tryz.prog.cellsOf 4 = 1:=by kernel_rfl
theorem cells_i64 : Tryz.prog.cellsOf 2 = 1:=by kernel_rfl
theorem cells_int : Tryz.prog.cellsOf 3 = 1:=by kernel_rfl
theorem cells_f64 : Tryz.prog.cellsOf 52 = 1:=by kernel_rfl
theorem cells_str : Tryz.prog.cellsOf 9 = 1:=by kernel_rfl
theorem cells_items : Tryz.prog.cellsOf 28 = 1:=by kernel_rfl
theorem cells_conds : Tryz.prog.cellsOf 29 = 1:=by kernel_rfl
theorem cells_strs : Tryz.prog.cellsOf 30 = 1:=by kernel_rfl
theorem cells_fold : Tryz.prog.cellsOf 31 = 1:=by kernel_rfl
theorem cells_pairs : Tryz.prog.cellsOf 34 = 1:=by kernel_rfl
theorem cells_cols : Tryz.prog.cellsOf 25 = 1:=by kernel_rfl
theorem cells_item : Tryz.prog.cellsOf 54 = 6:=by kernel_rfl
theorem cells_frame : Tryz.prog.cellsOf 24 = 2:=by kernel_rfl
theorem cells_table : Tryz.prog.cellsOf 27 = 3:=by kernel_rfl
theorem cells_query : Tryz.prog.cellsOf 33 = 9:=by kernel_rfl
theorem cells_bytes : Tryz.prog.cellsOf 35 = 1:=by kernel_rfl
theorem cells_condk : Tryz.prog.cellsOf 67 = 1:=by kernel_rfl
theorem cells_cond : Tryz.prog.cellsOf 69 = 8:=by kernel_rfl
theorem cells_pair : Tryz.prog.cellsOf 56 = 2:=by kernel_rfl
theorem cells_column : Tryz.prog.cellsOf 58 = 3:=by kernel_rfl
theorem cells_in : Tryz.prog.cellsOf 37 = 17:=by kernel_rfl
theorem bytes_item : Tryz.prog.bytesOf 54 = 64:=by kernel_rfl
theorem bytes_cond : Tryz.prog.bytesOf 69 = 88:=by kernel_rfl
theorem bytes_pair : Tryz.prog.bytesOf 56 = 32:=by kernel_rfl
theorem bytes_column : Tryz.prog.bytesOf 58 = 24:=by kernel_rfl
theorem bytes_str : Tryz.prog.bytesOf 9 = 16:=by kernel_rfl
section
variable {H : Type} {enc : TypeId × Value → H} {W : World}
theorem lit8_range {n : Int} (h : (Lit.int .u8 n).wf = true) : 0 ≤ n ∧ n ≤ 255:=by
 simp only [Lit.wf,Bool.and_eq_true,decide_eq_true_eq] at h
 exact h
theorem lit64_range {n : Int} (h : (Lit.int .i64 n).wf = true) : -9223372036854775808 ≤ n ∧ n ≤ 9223372036854775807:=by
 simp only [Lit.wf,Bool.and_eq_true,decide_eq_true_eq] at h
 exact h
theorem str_weight {s : ByteArray} (w : s.data.toList.length ≤ reachBytes) : s.size ≤ 140737488355328:=by
 have l0 : s.data.toList.length = s.size:=by simp
 rw [l0] at w
 unfold reachBytes at w
 omega
theorem text_cells {m : Nat} {cs : List Value} {y : DataW H × List MemPlace} (h : DataW.trod enc Tryz.prog W 0 (fun _ => true) true m 9 cs = some y) (wt : ∀ k ∈ y.1.weights Tryz.prog 9,k ≤ reachBytes) :
 ∃ s : ByteArray,s.size ≤ 140737488355328 ∧ cs = [.string s]:=by
 obtain ⟨s,rfl,rfl,_⟩:=DataW.trod_string Tryz.underlying9 h
 exact ⟨s,str_weight (wt s.data.toList.length (by simp [DataW.weights])),rfl⟩
theorem item_cells [Inhabited Thr] : ∀ (s m : Nat) (cs : List Value) (y : DataW H × List MemPlace),SizeOf.sizeOf y.1 ≤ s → DataW.trod enc Tryz.prog W 0 (fun _ => true) true m 54 cs = some y → (∀ k ∈ y.1.weights Tryz.prog 54,k ≤ reachBytes) → W.heap.size ≤ thr →
 ∃ x : VI,RdV W x ∧ cs = x.cells:=by
 intro s
 induction s with
 | zero => intro m cs y hs;exfalso;cases hy : y.1 <;> rw [hy] at hs <;> simp at hs
 | succ s ih =>
 intro m cs y hs h wt hthr
 obtain ⟨xs,n,_,hx,hl,hxl,hf⟩:=DataW.trod_struct Tryz.underlying54 h
 rw [cells_item] at hl
 obtain ⟨v0,v1,v2,v3,v4,v5,rfl⟩:=list6 hl
 obtain ⟨x0,x1,x2,x3,x4,x5,rfl⟩:=list6 (show xs.length = 6 from hxl)
 have h0 : DataW.trod enc Tryz.prog W 0 (fun _ => true) true n 51 (([v0,v1,v2,v3,v4,v5].drop 0).take (Tryz.prog.cellsOf 51)) = some x0:=hf 0 _ rfl
 have h1 : DataW.trod enc Tryz.prog W 0 (fun _ => true) true n 4 (([v0,v1,v2,v3,v4,v5].drop 1).take (Tryz.prog.cellsOf 4)) = some x1:=hf 1 _ rfl
 have h2 : DataW.trod enc Tryz.prog W 0 (fun _ => true) true n 2 (([v0,v1,v2,v3,v4,v5].drop 2).take (Tryz.prog.cellsOf 2)) = some x2:=hf 2 _ rfl
 have h3 : DataW.trod enc Tryz.prog W 0 (fun _ => true) true n 52 (([v0,v1,v2,v3,v4,v5].drop 3).take (Tryz.prog.cellsOf 52)) = some x3:=hf 3 _ rfl
 have h4 : DataW.trod enc Tryz.prog W 0 (fun _ => true) true n 9 (([v0,v1,v2,v3,v4,v5].drop 4).take (Tryz.prog.cellsOf 9)) = some x4:=hf 4 _ rfl
 have h5 : DataW.trod enc Tryz.prog W 0 (fun _ => true) true n 28 (([v0,v1,v2,v3,v4,v5].drop 5).take (Tryz.prog.cellsOf 28)) = some x5:=hf 5 _ rfl
 rw [cells_kind] at h0
 rw [cells_bool] at h1
 rw [cells_i64] at h2
 rw [cells_f64] at h3
 rw [cells_str] at h4
 rw [cells_items] at h5
 simp only [List.drop_zero,List.drop_succ_cons,List.take_succ_cons,List.take_zero] at h0 h1 h2 h3 h4 h5
 have w4 : ∀ k ∈ x4.1.weights Tryz.prog 9,k ≤ reachBytes:=fun k hk => wt k (by rw [hx];simp [DataW.weights,Tryz.underlying54,DataW.weightsEach,hk])
 have w5 : ∀ k ∈ x5.1.weights Tryz.prog 28,k ≤ reachBytes:=fun k hk => wt k (by rw [hx];simp [DataW.weights,Tryz.underlying54,DataW.weightsEach,hk])
 obtain ⟨k0,e0,_,q0⟩:=DataW.trod_int Tryz.underlying51 h0
 obtain ⟨k1,e1,_⟩:=DataW.trod_bool Tryz.underlying4 h1
 obtain ⟨k2,e2,_,q2⟩:=DataW.trod_int Tryz.underlying2 h2
 obtain ⟨k3,e3,_,q3⟩:=trod_float Tryz.underlying52 h3
 obtain ⟨k4,q4,e4⟩:=text_cells h4 w4
 obtain ⟨A5,n5,c5,z5,e5,nc5,b5,r5,g5⟩:=open_rd Tryz.underlying28 cells_item (by decide) h5 w5
 rw [bytes_item] at b5
 unfold reachBytes at b5
 simp only [List.cons.injEq,and_true] at e0 e1 e2 e3 e4 e5
 subst e0 e1 e2 e3 e4 e5
 have hxs : SizeOf.sizeOf x5.1 ≤ s:=by
  rw [hx] at hs
  have h1:=List.sizeOf_lt_of_mem (show x5.1 ∈ List.map (fun z : DataW H × List MemPlace => z.1) [x0,x1,x2,x3,x4,x5] by simp)
  simp only [DataW.agg.sizeOf_spec] at hs
  omega
 obtain ⟨l,hl1,hl2,hl3⟩:=chunk_list VI.cells 6 (fun x => RdV W x) (fun _ _ => rfl) n5 z5 r5.1 (fun i hi => by
  obtain ⟨cs',m',y',e,_,ht,hw,hsz⟩:=g5 i hi
  obtain ⟨p,hq,hc⟩:=ih m' cs' y' (by omega) ht hw hthr
  exact ⟨p,hq,e.trans hc⟩)
 subst hl1
 refine ⟨.mk k0 k1 k2 k3 k4 A5 c5 l,.mk _ (by show Rd W 6 A5 l.length (icells l);rw [show icells l = z5 from hl2];exact r5) nc5 (by show l.length * 64 ≤ _;omega) q4 (lit8_range q0) (by have:=q3;simp only [Lit.wf,decide_eq_true_eq] at this;exact this) (lit64_range q2) hl3 (fun h0 b o e hb => by have e : A5 = some ⟨b,o,none⟩:=e;rw [e] at r5;have h0 : 0 < l.length:=h0;have:=r5.block h0 (by decide);omega),rfl⟩
theorem items_of [Inhabited Thr] {n c : Nat} {A : Option Addr} {z : List Value} {Y : DataW H} (r : Rd W 6 A n z) (nc : n ≤ c) (b : c * 64 ≤ 140737488351232) (g : ∀ i,i < n → ∃ cs' m y,(z.drop (i * 6)).take 6 = cs' ∧ cs'.length = 6 ∧ DataW.trod enc Tryz.prog W 0 (fun _ => true) true m 54 cs' = some y ∧ (∀ k ∈ y.1.weights Tryz.prog 54,k ≤ reachBytes) ∧ SizeOf.sizeOf y.1 < SizeOf.sizeOf Y) (hthr : W.heap.size ≤ thr) :
 ∃ l : List VI,l.length = n ∧ RdI W A c l:=by
 obtain ⟨l,hl1,hl2,hl3⟩:=chunk_list VI.cells 6 (fun x => RdV W x) (fun _ _ => rfl) n z r.1 (fun i hi => by
  obtain ⟨cs',m',y',e,_,ht,hw,_⟩:=g i hi
  obtain ⟨p,hq,hc⟩:=item_cells _ m' cs' y' (Nat.le_refl _) ht hw hthr
  exact ⟨p,hq,e.trans hc⟩)
 subst hl1
 exact ⟨l,rfl,by rw [show icells l = z from hl2];exact r,nc,by omega,hl3⟩
theorem cond_cells [Inhabited Thr] {m : Nat} {cs : List Value} {y : DataW H × List MemPlace} (h : DataW.trod enc Tryz.prog W 0 (fun _ => true) true m 69 cs = some y) (wt : ∀ k ∈ y.1.weights Tryz.prog 69,k ≤ reachBytes) (hthr : W.heap.size ≤ thr) :
 ∃ x : CondD,(RdV W x.item ∧ x.col.size ≤ 140737488355328 ∧ 0 ≤ x.kind ∧ x.kind ≤ 255) ∧ cs = x.cells:=by
 obtain ⟨xs,n,_,hx,hl,hxl,hf⟩:=DataW.trod_struct Tryz.underlying69 h
 rw [cells_cond] at hl
 obtain ⟨v0,v1,v2,v3,v4,v5,v6,v7,rfl⟩:=list8 hl
 obtain ⟨x0,x1,x2,rfl⟩:=list3 (show xs.length = 3 from hxl)
 have h0 : DataW.trod enc Tryz.prog W 0 (fun _ => true) true n 9 (([v0,v1,v2,v3,v4,v5,v6,v7].drop 0).take (Tryz.prog.cellsOf 9)) = some x0:=hf 0 _ rfl
 have h1 : DataW.trod enc Tryz.prog W 0 (fun _ => true) true n 67 (([v0,v1,v2,v3,v4,v5,v6,v7].drop 1).take (Tryz.prog.cellsOf 67)) = some x1:=hf 1 _ rfl
 have h2 : DataW.trod enc Tryz.prog W 0 (fun _ => true) true n 54 (([v0,v1,v2,v3,v4,v5,v6,v7].drop 2).take (Tryz.prog.cellsOf 54)) = some x2:=hf 2 _ rfl
 rw [cells_str] at h0
 rw [cells_condk] at h1
 rw [cells_item] at h2
 simp only [List.drop_zero,List.drop_succ_cons,List.take_succ_cons,List.take_zero] at h0 h1 h2
 have w0 : ∀ k ∈ x0.1.weights Tryz.prog 9,k ≤ reachBytes:=fun k hk => wt k (by rw [hx];simp [DataW.weights,Tryz.underlying69,DataW.weightsEach,hk])
 have w2 : ∀ k ∈ x2.1.weights Tryz.prog 54,k ≤ reachBytes:=fun k hk => wt k (by rw [hx];simp [DataW.weights,Tryz.underlying69,DataW.weightsEach,hk])
 obtain ⟨k0,q0,e0⟩:=text_cells h0 w0
 obtain ⟨k1,e1,_,q1⟩:=DataW.trod_int Tryz.underlying67 h1
 simp only [List.cons.injEq,and_true] at e0 e1
 subst e0 e1
 obtain ⟨x,hx1,hx2⟩:=item_cells _ n _ x2 (Nat.le_refl _) h2 w2 hthr
 exact ⟨⟨k0,k1,x⟩,⟨hx1,q0,lit8_range q1⟩,by rw [CondD.cells,← hx2]⟩
theorem pair_cells {m : Nat} {cs : List Value} {y : DataW H × List MemPlace} (h : DataW.trod enc Tryz.prog W 0 (fun _ => true) true m 56 cs = some y) (wt : ∀ k ∈ y.1.weights Tryz.prog 56,k ≤ reachBytes) :
 ∃ p : ByteArray × ByteArray,(p.1.size ≤ 140737488355328 ∧ p.2.size ≤ 140737488355328) ∧ cs = pcell p:=by
 obtain ⟨xs,n,_,hx,hl,hxl,hf⟩:=DataW.trod_struct Tryz.underlying56 h
 rw [cells_pair] at hl
 obtain ⟨v0,v1,rfl⟩:=list2 hl
 obtain ⟨x0,x1,rfl⟩:=list2 (show xs.length = 2 from hxl)
 have h0 : DataW.trod enc Tryz.prog W 0 (fun _ => true) true n 9 (([v0,v1].drop 0).take (Tryz.prog.cellsOf 9)) = some x0:=hf 0 _ rfl
 have h1 : DataW.trod enc Tryz.prog W 0 (fun _ => true) true n 9 (([v0,v1].drop 1).take (Tryz.prog.cellsOf 9)) = some x1:=hf 1 _ rfl
 rw [cells_str] at h0
 rw [cells_str] at h1
 simp only [List.drop_zero,List.drop_succ_cons,List.take_succ_cons,List.take_zero] at h0 h1
 have w0 : ∀ k ∈ x0.1.weights Tryz.prog 9,k ≤ reachBytes:=fun k hk => wt k (by rw [hx];simp [DataW.weights,Tryz.underlying56,DataW.weightsEach,hk])
 have w1 : ∀ k ∈ x1.1.weights Tryz.prog 9,k ≤ reachBytes:=fun k hk => wt k (by rw [hx];simp [DataW.weights,Tryz.underlying56,DataW.weightsEach,hk])
 obtain ⟨k0,q0,e0⟩:=text_cells h0 w0
 obtain ⟨k1,q1,e1⟩:=text_cells h1 w1
 simp only [List.cons.injEq,and_true] at e0 e1
 subst e0 e1
 exact ⟨(k0,k1),⟨q0,q1⟩,rfl⟩
theorem column_cells {m : Nat} {cs : List Value} {y : DataW H × List MemPlace} (h : DataW.trod enc Tryz.prog W 0 (fun _ => true) true m 58 cs = some y) (wt : ∀ k ∈ y.1.weights Tryz.prog 58,k ≤ reachBytes) :
 ∃ x : ColD,(x.name.size ≤ 140737488355328 ∧ 0 ≤ x.kind ∧ x.kind ≤ 255) ∧ cs = x.cells:=by
 obtain ⟨xs,n,_,hx,hl,hxl,hf⟩:=DataW.trod_struct Tryz.underlying58 h
 rw [cells_column] at hl
 obtain ⟨v0,v1,v2,rfl⟩:=list3 hl
 obtain ⟨x0,x1,x2,rfl⟩:=list3 (show xs.length = 3 from hxl)
 have h0 : DataW.trod enc Tryz.prog W 0 (fun _ => true) true n 9 (([v0,v1,v2].drop 0).take (Tryz.prog.cellsOf 9)) = some x0:=hf 0 _ rfl
 have h1 : DataW.trod enc Tryz.prog W 0 (fun _ => true) true n 51 (([v0,v1,v2].drop 1).take (Tryz.prog.cellsOf 51)) = some x1:=hf 1 _ rfl
 have h2 : DataW.trod enc Tryz.prog W 0 (fun _ => true) true n 4 (([v0,v1,v2].drop 2).take (Tryz.prog.cellsOf 4)) = some x2:=hf 2 _ rfl
 rw [cells_str] at h0
 rw [cells_kind] at h1
 rw [cells_bool] at h2
 simp only [List.drop_zero,List.drop_succ_cons,List.take_succ_cons,List.take_zero] at h0 h1 h2
 have w0 : ∀ k ∈ x0.1.weights Tryz.prog 9,k ≤ reachBytes:=fun k hk => wt k (by rw [hx];simp [DataW.weights,Tryz.underlying58,DataW.weightsEach,hk])
 obtain ⟨k0,q0,e0⟩:=text_cells h0 w0
 obtain ⟨k1,e1,_,q1⟩:=DataW.trod_int Tryz.underlying51 h1
 obtain ⟨k2,e2,_⟩:=DataW.trod_bool Tryz.underlying4 h2
 simp only [List.cons.injEq,and_true] at e0 e1 e2
 subst e0 e1 e2
 exact ⟨⟨k0,k1,k2⟩,⟨q0,lit8_range q1⟩,rfl⟩
theorem frame_cells {m : Nat} {cs : List Value} {y : DataW H × List MemPlace} (h : DataW.trod enc Tryz.prog W 0 (fun _ => true) true m 24 cs = some y) : ∃ pg wd,cs = [.int .i64 pg,.int .i64 wd]:=by
 obtain ⟨xs,n,_,hx,hl,hxl,hf⟩:=DataW.trod_struct Tryz.underlying24 h
 rw [cells_frame] at hl
 obtain ⟨v0,v1,rfl⟩:=list2 hl
 obtain ⟨x0,x1,rfl⟩:=list2 (show xs.length = 2 from hxl)
 have h0 : DataW.trod enc Tryz.prog W 0 (fun _ => true) true n 3 (([v0,v1].drop 0).take (Tryz.prog.cellsOf 3)) = some x0:=hf 0 _ rfl
 have h1 : DataW.trod enc Tryz.prog W 0 (fun _ => true) true n 3 (([v0,v1].drop 1).take (Tryz.prog.cellsOf 3)) = some x1:=hf 1 _ rfl
 rw [cells_int] at h0
 rw [cells_int] at h1
 simp only [List.drop_zero,List.drop_succ_cons,List.take_succ_cons,List.take_zero] at h0 h1
 obtain ⟨k0,e0,_,q0⟩:=DataW.trod_int Tryz.underlying3 h0
 obtain ⟨k1,e1,_,q1⟩:=DataW.trod_int Tryz.underlying3 h1
 simp only [List.cons.injEq,and_true] at e0 e1
 subst e0 e1
 exact ⟨k0,k1,rfl⟩
theorem table_cells {m : Nat} {cs : List Value} {y : DataW H × List MemPlace} (h : DataW.trod enc Tryz.prog W 0 (fun _ => true) true m 27 cs = some y) (wt : ∀ k ∈ y.1.weights Tryz.prog 27,k ≤ reachBytes) :
 ∃ t A c,cs = [.string t.name,.slice A t.cols.length c,.int .i64 t.keys] ∧ RdT W A c t:=by
 obtain ⟨xs,n,_,hx,hl,hxl,hf⟩:=DataW.trod_struct Tryz.underlying27 h
 rw [cells_table] at hl
 obtain ⟨v0,v1,v2,rfl⟩:=list3 hl
 obtain ⟨x0,x1,x2,rfl⟩:=list3 (show xs.length = 3 from hxl)
 have h0 : DataW.trod enc Tryz.prog W 0 (fun _ => true) true n 9 (([v0,v1,v2].drop 0).take (Tryz.prog.cellsOf 9)) = some x0:=hf 0 _ rfl
 have h1 : DataW.trod enc Tryz.prog W 0 (fun _ => true) true n 25 (([v0,v1,v2].drop 1).take (Tryz.prog.cellsOf 25)) = some x1:=hf 1 _ rfl
 have h2 : DataW.trod enc Tryz.prog W 0 (fun _ => true) true n 3 (([v0,v1,v2].drop 2).take (Tryz.prog.cellsOf 3)) = some x2:=hf 2 _ rfl
 rw [cells_str] at h0
 rw [cells_cols] at h1
 rw [cells_int] at h2
 simp only [List.drop_zero,List.drop_succ_cons,List.take_succ_cons,List.take_zero] at h0 h1 h2
 have w0 : ∀ k ∈ x0.1.weights Tryz.prog 9,k ≤ reachBytes:=fun k hk => wt k (by rw [hx];simp [DataW.weights,Tryz.underlying27,DataW.weightsEach,hk])
 have w1 : ∀ k ∈ x1.1.weights Tryz.prog 25,k ≤ reachBytes:=fun k hk => wt k (by rw [hx];simp [DataW.weights,Tryz.underlying27,DataW.weightsEach,hk])
 obtain ⟨k0,q0,e0⟩:=text_cells h0 w0
 obtain ⟨A1,n1,c1,z1,e1,nc1,b1,r1,g1⟩:=open_rd Tryz.underlying25 cells_column (by decide) h1 w1
 rw [bytes_column] at b1
 unfold reachBytes at b1
 obtain ⟨k2,e2,_,q2⟩:=DataW.trod_int Tryz.underlying3 h2
 simp only [List.cons.injEq,and_true] at e0 e1 e2
 subst e0 e1 e2
 obtain ⟨l,hl1,hl2,hl3⟩:=chunk_list ColD.cells 3 (fun x => x.name.size ≤ 140737488355328 ∧ 0 ≤ x.kind ∧ x.kind ≤ 255) (fun _ _ => rfl) n1 z1 r1.1 (fun i hi => by
  obtain ⟨cs',m',y',e,_,ht,hw,_⟩:=g1 i hi
  obtain ⟨p,hq,hc⟩:=column_cells ht hw
  exact ⟨p,hq,e.trans hc⟩)
 subst hl1
 exact ⟨⟨k0,l,k2⟩,A1,c1,rfl,by rw [show ccells l = z1 from hl2];exact r1,nc1,by show l.length * 24 ≤ _;omega,q0,lit64_range q2,hl3⟩
theorem query_cells [Inhabited Thr] {m : Nat} {cs : List Value} {y : DataW H × List MemPlace} (h : DataW.trod enc Tryz.prog W 0 (fun _ => true) true m 33 cs = some y) (wt : ∀ k ∈ y.1.weights Tryz.prog 33,k ≤ reachBytes) (hthr : W.heap.size ≤ thr) :
 ∃ q : QryV,cs = q.cells.toList ∧ RdQ W q:=by
 obtain ⟨xs,n,_,hx,hl,hxl,hf⟩:=DataW.trod_struct Tryz.underlying33 h
 rw [cells_query] at hl
 obtain ⟨v0,v1,v2,v3,v4,v5,v6,v7,v8,rfl⟩:=list9 hl
 obtain ⟨x0,x1,x2,x3,x4,x5,x6,x7,x8,rfl⟩:=list9 (show xs.length = 9 from hxl)
 have h0 : DataW.trod enc Tryz.prog W 0 (fun _ => true) true n 9 (([v0,v1,v2,v3,v4,v5,v6,v7,v8].drop 0).take (Tryz.prog.cellsOf 9)) = some x0:=hf 0 _ rfl
 have h1 : DataW.trod enc Tryz.prog W 0 (fun _ => true) true n 28 (([v0,v1,v2,v3,v4,v5,v6,v7,v8].drop 1).take (Tryz.prog.cellsOf 28)) = some x1:=hf 1 _ rfl
 have h2 : DataW.trod enc Tryz.prog W 0 (fun _ => true) true n 28 (([v0,v1,v2,v3,v4,v5,v6,v7,v8].drop 2).take (Tryz.prog.cellsOf 28)) = some x2:=hf 2 _ rfl
 have h3 : DataW.trod enc Tryz.prog W 0 (fun _ => true) true n 29 (([v0,v1,v2,v3,v4,v5,v6,v7,v8].drop 3).take (Tryz.prog.cellsOf 29)) = some x3:=hf 3 _ rfl
 have h4 : DataW.trod enc Tryz.prog W 0 (fun _ => true) true n 30 (([v0,v1,v2,v3,v4,v5,v6,v7,v8].drop 4).take (Tryz.prog.cellsOf 30)) = some x4:=hf 4 _ rfl
 have h5 : DataW.trod enc Tryz.prog W 0 (fun _ => true) true n 4 (([v0,v1,v2,v3,v4,v5,v6,v7,v8].drop 5).take (Tryz.prog.cellsOf 4)) = some x5:=hf 5 _ rfl
 have h6 : DataW.trod enc Tryz.prog W 0 (fun _ => true) true n 3 (([v0,v1,v2,v3,v4,v5,v6,v7,v8].drop 6).take (Tryz.prog.cellsOf 3)) = some x6:=hf 6 _ rfl
 have h7 : DataW.trod enc Tryz.prog W 0 (fun _ => true) true n 31 (([v0,v1,v2,v3,v4,v5,v6,v7,v8].drop 7).take (Tryz.prog.cellsOf 31)) = some x7:=hf 7 _ rfl
 have h8 : DataW.trod enc Tryz.prog W 0 (fun _ => true) true n 9 (([v0,v1,v2,v3,v4,v5,v6,v7,v8].drop 8).take (Tryz.prog.cellsOf 9)) = some x8:=hf 8 _ rfl
 rw [cells_str] at h0
 rw [cells_items] at h1
 rw [cells_items] at h2
 rw [cells_conds] at h3
 rw [cells_strs] at h4
 rw [cells_bool] at h5
 rw [cells_int] at h6
 rw [cells_fold] at h7
 rw [cells_str] at h8
 simp only [List.drop_zero,List.drop_succ_cons,List.take_succ_cons,List.take_zero] at h0 h1 h2 h3 h4 h5 h6 h7 h8
 have w0 : ∀ k ∈ x0.1.weights Tryz.prog 9,k ≤ reachBytes:=fun k hk => wt k (by rw [hx];simp [DataW.weights,Tryz.underlying33,DataW.weightsEach,hk])
 have w1 : ∀ k ∈ x1.1.weights Tryz.prog 28,k ≤ reachBytes:=fun k hk => wt k (by rw [hx];simp [DataW.weights,Tryz.underlying33,DataW.weightsEach,hk])
 have w2 : ∀ k ∈ x2.1.weights Tryz.prog 28,k ≤ reachBytes:=fun k hk => wt k (by rw [hx];simp [DataW.weights,Tryz.underlying33,DataW.weightsEach,hk])
 have w3 : ∀ k ∈ x3.1.weights Tryz.prog 29,k ≤ reachBytes:=fun k hk => wt k (by rw [hx];simp [DataW.weights,Tryz.underlying33,DataW.weightsEach,hk])
 have w4 : ∀ k ∈ x4.1.weights Tryz.prog 30,k ≤ reachBytes:=fun k hk => wt k (by rw [hx];simp [DataW.weights,Tryz.underlying33,DataW.weightsEach,hk])
 have w8 : ∀ k ∈ x8.1.weights Tryz.prog 9,k ≤ reachBytes:=fun k hk => wt k (by rw [hx];simp [DataW.weights,Tryz.underlying33,DataW.weightsEach,hk])
 obtain ⟨k0,q0,e0⟩:=text_cells h0 w0
 obtain ⟨A1,n1,c1,z1,e1,nc1,b1,r1,g1⟩:=open_rd Tryz.underlying28 cells_item (by decide) h1 w1
 rw [bytes_item] at b1
 unfold reachBytes at b1
 obtain ⟨A2,n2,c2,z2,e2,nc2,b2,r2,g2⟩:=open_rd Tryz.underlying28 cells_item (by decide) h2 w2
 rw [bytes_item] at b2
 unfold reachBytes at b2
 obtain ⟨A3,n3,c3,z3,e3,nc3,b3,r3,g3⟩:=open_rd Tryz.underlying29 cells_cond (by decide) h3 w3
 rw [bytes_cond] at b3
 unfold reachBytes at b3
 obtain ⟨A4,n4,c4,z4,e4,nc4,b4,r4,g4⟩:=open_rd Tryz.underlying30 cells_str (by decide) h4 w4
 rw [bytes_str] at b4
 unfold reachBytes at b4
 obtain ⟨k5,e5,_⟩:=DataW.trod_bool Tryz.underlying4 h5
 obtain ⟨k6,e6,_,q6⟩:=DataW.trod_int Tryz.underlying3 h6
 obtain ⟨k7,e7,_,q7⟩:=DataW.trod_int Tryz.underlying31 h7
 obtain ⟨k8,q8,e8⟩:=text_cells h8 w8
 simp only [List.cons.injEq,and_true] at e0 e1 e2 e3 e4 e5 e6 e7 e8
 subst e0 e1 e2 e3 e4 e5 e6 e7 e8
 obtain ⟨lf,hf1,hf2⟩:=items_of r1 nc1 b1 g1 hthr
 obtain ⟨lt,ht1,ht2⟩:=items_of r2 nc2 b2 g2 hthr
 obtain ⟨lw,hw1,hw2,hw3⟩:=chunk_list CondD.cells 8 (fun x => RdV W x.item ∧ x.col.size ≤ 140737488355328 ∧ 0 ≤ x.kind ∧ x.kind ≤ 255) (fun _ _ => rfl) n3 z3 r3.1 (fun i hi => by
  obtain ⟨cs',m',y',e,_,ht,hw,_⟩:=g3 i hi
  obtain ⟨p,hq,hc⟩:=cond_cells ht hw hthr
  exact ⟨p,hq,e.trans hc⟩)
 obtain ⟨ls,hs1,hs2,hs3⟩:=chunk_list (fun s : ByteArray => [Value.string s]) 1 (fun s => s.size ≤ 140737488355328) (fun _ _ => rfl) n4 z4 r4.1 (fun i hi => by
  obtain ⟨cs',m',y',e,_,ht,hw,_⟩:=g4 i hi
  obtain ⟨p,hq,hc⟩:=text_cells ht hw
  exact ⟨p,hq,e.trans hc⟩)
 have hs2' : ls.map Value.string = z4:=by rw [← hs2];clear hs1 hs2 hs3;induction ls with
  | nil => rfl
  | cons a l ih => simp [ih]
 subst hf1 ht1 hw1 hs1
 exact ⟨⟨k0,lf,lt,lw,ls,k5,k6,k7,k8,A1,c1,A2,c2,A3,c3,A4,c4⟩,rfl,{
  fr:=hf2
  tt:=ht2
  wh:=by show Rd W 8 A3 lw.length (wcells lw);rw [show wcells lw = z3 from hw2];exact r3
  wc:=nc3
  wb:=by show lw.length * 88 ≤ _;omega
  wx:=hw3
  cl:=by show Rd W 1 A4 ls.length (ls.map .string);rw [hs2'];exact r4
  cc:=nc4
  cb:=by show ls.length * 16 ≤ _;omega
  cx:=hs3
  nt:=q0
  no:=q8
  hl:=lit64_range q6
  hf:=lit8_range q7 }⟩
theorem open_in [Inhabited Thr] {r : Reach} {b0 : Nat} {v : Value} {d : DataW H} {ps : List MemPlace} (hv : Value.okWide Tryz.prog W r b0 37 v) (hd : DataW.Trod enc Tryz.prog W 0 (fun _ => true) true 37 v d ps) (wt0 : ∀ k ∈ d.weights Tryz.prog 37,k ≤ reachBytes) (hthr : W.heap.size ≤ thr) :
 ∃ x : InV,v = x.val ∧ RdX W x:=by
 obtain ⟨cs,rfl,hsz⟩:=okWide_struct Tryz.underlying37 hv
 obtain ⟨fuel,h⟩:=hd
 obtain ⟨cs⟩:=cs
 have wt : ∀ k ∈ ((d,ps) : DataW H × List MemPlace).1.weights Tryz.prog 37,k ≤ reachBytes:=wt0
 obtain ⟨xs,n,_,hx,hl,hxl,hf⟩:=DataW.trod_struct Tryz.underlying37 h
 rw [cells_in] at hl
 obtain ⟨v0,v1,v2,v3,v4,v5,v6,v7,v8,v9,v10,v11,v12,v13,v14,v15,v16,hcs⟩:=list17 hl
 have hcs : cs = [v0,v1,v2,v3,v4,v5,v6,v7,v8,v9,v10,v11,v12,v13,v14,v15,v16]:=hcs
 subst hcs
 obtain ⟨x0,x1,x2,x3,x4,x5,rfl⟩:=list6 (show xs.length = 6 from hxl)
 have h0 : DataW.trod enc Tryz.prog W 0 (fun _ => true) true n 24 (([v0,v1,v2,v3,v4,v5,v6,v7,v8,v9,v10,v11,v12,v13,v14,v15,v16].drop 0).take (Tryz.prog.cellsOf 24)) = some x0:=hf 0 _ rfl
 have h1 : DataW.trod enc Tryz.prog W 0 (fun _ => true) true n 27 (([v0,v1,v2,v3,v4,v5,v6,v7,v8,v9,v10,v11,v12,v13,v14,v15,v16].drop 2).take (Tryz.prog.cellsOf 27)) = some x1:=hf 1 _ rfl
 have h2 : DataW.trod enc Tryz.prog W 0 (fun _ => true) true n 33 (([v0,v1,v2,v3,v4,v5,v6,v7,v8,v9,v10,v11,v12,v13,v14,v15,v16].drop 5).take (Tryz.prog.cellsOf 33)) = some x2:=hf 2 _ rfl
 have h3 : DataW.trod enc Tryz.prog W 0 (fun _ => true) true n 34 (([v0,v1,v2,v3,v4,v5,v6,v7,v8,v9,v10,v11,v12,v13,v14,v15,v16].drop 14).take (Tryz.prog.cellsOf 34)) = some x3:=hf 3 _ rfl
 have h4 : DataW.trod enc Tryz.prog W 0 (fun _ => true) true n 35 (([v0,v1,v2,v3,v4,v5,v6,v7,v8,v9,v10,v11,v12,v13,v14,v15,v16].drop 15).take (Tryz.prog.cellsOf 35)) = some x4:=hf 4 _ rfl
 have h5 : DataW.trod enc Tryz.prog W 0 (fun _ => true) true n 9 (([v0,v1,v2,v3,v4,v5,v6,v7,v8,v9,v10,v11,v12,v13,v14,v15,v16].drop 16).take (Tryz.prog.cellsOf 9)) = some x5:=hf 5 _ rfl
 rw [cells_frame] at h0
 rw [cells_table] at h1
 rw [cells_query] at h2
 rw [cells_pairs] at h3
 rw [cells_bytes] at h4
 rw [cells_str] at h5
 simp only [List.drop_zero,List.drop_succ_cons,List.take_succ_cons,List.take_zero] at h0 h1 h2 h3 h4 h5
 have w1 : ∀ k ∈ x1.1.weights Tryz.prog 27,k ≤ reachBytes:=fun k hk => wt k (by simp only [Prod.mk.injEq] at hx;rw [hx.1];simp [DataW.weights,Tryz.underlying37,DataW.weightsEach,hk])
 have w2 : ∀ k ∈ x2.1.weights Tryz.prog 33,k ≤ reachBytes:=fun k hk => wt k (by simp only [Prod.mk.injEq] at hx;rw [hx.1];simp [DataW.weights,Tryz.underlying37,DataW.weightsEach,hk])
 have w3 : ∀ k ∈ x3.1.weights Tryz.prog 34,k ≤ reachBytes:=fun k hk => wt k (by simp only [Prod.mk.injEq] at hx;rw [hx.1];simp [DataW.weights,Tryz.underlying37,DataW.weightsEach,hk])
 have w5 : ∀ k ∈ x5.1.weights Tryz.prog 9,k ≤ reachBytes:=fun k hk => wt k (by simp only [Prod.mk.injEq] at hx;rw [hx.1];simp [DataW.weights,Tryz.underlying37,DataW.weightsEach,hk])
 obtain ⟨A3,n3,c3,z3,e3,nc3,b3,r3,g3⟩:=open_rd Tryz.underlying34 cells_pair (by decide) h3 w3
 rw [bytes_pair] at b3
 unfold reachBytes at b3
 obtain ⟨A4,n4,c4,e4⟩ : ∃ A n c,[v15] = [.slice A n c]:=by
  rcases DataW.trod_slice Tryz.underlying35 h4 with ⟨e,_⟩ | ⟨a,len,cap,_,_,_,_,e,_⟩
  ·exact ⟨_,_,_,e⟩
  ·exact ⟨_,_,_,e⟩
 obtain ⟨k5,q5,e5⟩:=text_cells h5 w5
 simp only [List.cons.injEq,and_true] at e3 e4 e5
 obtain ⟨pg,wd,f0⟩:=frame_cells h0
 obtain ⟨t,A,c,t0,hT⟩:=table_cells h1 w1
 obtain ⟨q,qe,hQ⟩:=query_cells h2 w2 hthr
 obtain ⟨lp,hp1,hp2,hp3⟩:=chunk_list pcell 2 (fun p => p.1.size ≤ 140737488355328 ∧ p.2.size ≤ 140737488355328) (fun _ _ => rfl) n3 z3 r3.1 (fun i hi => by
  obtain ⟨cs',m',y',e,_,ht,hw,_⟩:=g3 i hi
  obtain ⟨p,hq,hc⟩:=pair_cells ht hw
  exact ⟨p,hq,e.trans hc⟩)
 subst hp1
 rcases q with ⟨qt,fr,tt,wh,qc,qd,ql,qf,qo,AF,cF,AT,cT,AW,cW,AC,cC⟩
 simp only [QryV.cells,List.cons.injEq,and_true] at f0 t0 qe
 obtain ⟨rfl,rfl⟩:=f0
 obtain ⟨rfl,rfl,rfl⟩:=t0
 obtain ⟨rfl,rfl,rfl,rfl,rfl,rfl,rfl,rfl,rfl⟩:=qe
 subst e3 e4 e5
 exact ⟨⟨pg,wd,t,A,c,⟨qt,fr,tt,wh,qc,qd,ql,qf,qo,AF,cF,AT,cT,AW,cW,AC,cC⟩,lp,A3,c3,A4,n4,c4,k5⟩,rfl,hT,hQ,⟨by rw [show pcells lp = z3 from hp2];exact r3,nc3,by show lp.length * 32 ≤ _;omega,hp3⟩⟩
end
theorem weight_at {H : Type} {P : Program} {ts : List TypeId} {ds : List (DataW H)} (hsz : (DataW.weightsEach P ts ds).all (· ≤ reachBytes) = true) {j : Nat} {t : TypeId} {d : DataW H} (ht : ts[j]? = some t) (hd : ds[j]? = some d) : ∀ k ∈ d.weights P t,k ≤ reachBytes:=fun k hk => by
 have:=List.all_eq_true.1 hsz k (DataW.weights_mem_each ht hd k hk)
 simpa using this
def zeroIn : Value:=.agg #[.int .i64 0,.int .i64 0,.string ⟨#[]⟩,.slice none 0 0,.int .i64 0,.string ⟨#[]⟩,.slice none 0 0,.slice none 0 0,.slice none 0 0,.slice none 0 0,.bool false,.int .i64 0,.int .u8 0,.string ⟨#[]⟩,.slice none 0 0,.slice none 0 0,.string ⟨#[]⟩]
def zeroD {H : Type} : DataW H:=.agg [.agg [.lit (.int .i64 0),.lit (.int .i64 0)],.agg [.lit (.string []),.nil,.lit (.int .i64 0)],.agg [.lit (.string []),.nil,.nil,.nil,.nil,.lit (.bool false),.lit (.int .i64 0),.lit (.int .u8 0),.lit (.string [])],.nil,.nil,.lit (.string [])]
end
end Go.Proofs.YtonjgedhmmnolaaGreatDoor
