import Derived.Test.YtonjgedhmmnolaaGreatDoorZ13
import Derived.Deep.MidRow
namespace Go.Proofs.YtonjgedhmmnolaaGreatDoor
section
open Go.RowKit
set_option maxHeartbeats 1000000
set_option maxRecDepth 100000
theorem setCells_form (b : Nat) {e : TypeId} : ∀ (vs : List Value) (o : Nat) (w : World) (cs : Array Value),w.heap[b]? = some (.cells cs e (0,0)) → ∃ cs',(w.setCells b o vs).heap[b]? = some (.cells cs' e (0,0)) ∧ cs'.size = cs.size
 | [],_,_,cs,h => ⟨cs,h,rfl⟩
 | v :: vs,o,w,cs,h => by
   obtain ⟨cs',h1,h2⟩:=setCells_form b vs (o + 1) (w.setCell ⟨b,o,none⟩ v) _ (heap_setCell_same w b o cs e v h)
   exact ⟨cs',h1,by simpa using h2⟩
theorem setCells_size (b : Nat) : ∀ (vs : List Value) (o : Nat) (w : World),(w.setCells b o vs).heap.size = w.heap.size
 | [],_,_ => rfl
 | v :: vs,o,w => by
   rw [World.setCells,setCells_size b vs]
   simp [World.setCell]
theorem setCells_tape (b : Nat) : ∀ (vs : List Value) (o : Nat) (w : World),(w.setCells b o vs).tape = w.tape
 | [],_,_ => rfl
 | v :: vs,o,w => by rw [World.setCells,setCells_tape b vs];rfl
theorem setCells_os (b : Nat) : ∀ (vs : List Value) (o : Nat) (w : World),(w.setCells b o vs).os = w.os
 | [],_,_ => rfl
 | v :: vs,o,w => by rw [World.setCells,setCells_os b vs];rfl
theorem setCells_out (b : Nat) : ∀ (vs : List Value) (o : Nat) (w : World),(w.setCells b o vs).output = w.output
 | [],_,_ => rfl
 | v :: vs,o,w => by rw [World.setCells,setCells_out b vs];rfl
theorem setCells_other (b : Nat) : ∀ (vs : List Value) (o : Nat) (w : World) (k : Nat),k ≠ b → (w.setCells b o vs).heap[k]? = w.heap[k]?
 | [],_,_,_,_ => rfl
 | v :: vs,o,w,k,h => by rw [World.setCells,setCells_other b vs _ _ k h];exact heap_setCell_other _ _ _ _ h
structure Spoilt (B Bb : Nat) (W1 W : World) : Prop where
 lo : B ≤ Bb
 le : Bb ≤ W1.heap.size
 bel : Below B W1 W
 mid : ∀ k,Bb ≤ k → k < W1.heap.size → W.heap[k]? = W1.heap[k]?
 its : ∀ k,B ≤ k → k < Bb → ∀ cs,W1.heap[k]? = some (.cells cs 54 (0,0)) → (∃ cs',W.heap[k]? = some (.cells cs' 54 (0,0)) ∧ cs'.size = cs.size) ∧
  ∀ i,W.cell? ⟨k,i * 6 + 5,none⟩ = W1.cell? ⟨k,i * 6 + 5,none⟩ ∨ W.cell? ⟨k,i * 6 + 5,none⟩ = some (.slice none 0 0)
section
variable {B Bb : Nat} {W1 W W' : World}
theorem Spoilt.refl (h0 : B ≤ Bb) (h : Bb ≤ W1.heap.size) : Spoilt B Bb W1 W1:=⟨h0,h,Below.refl _ _,fun _ _ _ => rfl,fun _ _ _ cs hc => ⟨⟨cs,hc,rfl⟩,fun _ => .inl rfl⟩⟩
theorem Spoilt.size (h : Spoilt B Bb W1 W) : W1.heap.size ≤ W.heap.size:=h.bel.size
theorem Spoilt.step (h : Spoilt B Bb W1 W) (hos : W'.os = W.os) (htp : W'.tape = W.tape) (hou : W'.output = W.output) (hsz : W.heap.size ≤ W'.heap.size) (g : Nat) (hg : B ≤ g) (ho : ∀ k,k < W.heap.size → k ≠ g → W'.heap[k]? = W.heap[k]?)
 (hgg : (g < Bb ∧ ∀ cs,W1.heap[g]? = some (.cells cs 54 (0,0)) → (∀ c2,W.heap[g]? = some (.cells c2 54 (0,0)) → ∃ cs',W'.heap[g]? = some (.cells cs' 54 (0,0)) ∧ cs'.size = c2.size) ∧
   ∀ i,W'.cell? ⟨g,i * 6 + 5,none⟩ = W.cell? ⟨g,i * 6 + 5,none⟩ ∨ W'.cell? ⟨g,i * 6 + 5,none⟩ = some (.slice none 0 0)) ∨ W1.heap.size ≤ g) : Spoilt B Bb W1 W':=by
 have hle:=h.le
 have h1:=h.size
 have hlo:=h.lo
 refine ⟨hlo,hle,⟨hos.trans h.bel.os,htp.trans h.bel.tape,hou.trans h.bel.output,Nat.le_trans h1 hsz,fun k hk => ?_⟩,fun k hk hk2 => ?_,fun k hk hk2 cs hc => ?_⟩
 ·exact (ho k (by omega) (by omega)).trans (h.bel.block k hk)
 ·exact (ho k (by omega) (by rcases hgg with hgg | hgg <;> omega)).trans (h.mid k hk hk2)
 ·obtain ⟨⟨cs',q1,q2⟩,q3⟩:=h.its k hk hk2 cs hc
  by_cases hkg : k = g
  ·subst hkg
   rcases hgg with ⟨_,hgg⟩ | hgg
   ·obtain ⟨p1,p2⟩:=hgg cs hc
    obtain ⟨c3,r1,r2⟩:=p1 cs' q1
    refine ⟨⟨c3,r1,r2.trans q2⟩,fun i => ?_⟩
    rcases p2 i with e | e
    ·rw [e];exact q3 i
    ·exact .inr e
   ·omega
  ·have hb:=ho k (by omega) hkg
   refine ⟨⟨cs',hb.trans q1,q2⟩,fun i => ?_⟩
   rw [World.cell?_of_block (a:=⟨k,i * 6 + 5,none⟩) hb]
   exact q3 i
theorem Spoilt.drew (h : Spoilt B Bb W1 W) : Spoilt B Bb W1 W.drew:=⟨h.lo,h.le,h.bel.drew,h.mid,h.its⟩
theorem Spoilt.below (h : Spoilt B Bb W1 W) (hb : Below W.heap.size W W') : Spoilt B Bb W1 W' :=
 h.step hb.os hb.tape hb.output hb.size W.heap.size (by have:=h.size;have:=h.le;have:=h.lo;omega) (fun k hk _ => hb.block k hk) (.inr h.size)
theorem Spoilt.put (h : Spoilt B Bb W1 W) {g o : Nat} (hg : B ≤ g) (hg2 : g < Bb) {cs : Array Value} (hc : W1.heap[g]? = some (.cells cs 54 (0,0))) {k n : Int} {b : Bool} {f : Nat} {t : ByteArray} (hi : o * 6 + 6 ≤ cs.size) :
 Spoilt B Bb W1 (W.setCells g (o * 6) [.int .u8 k,.bool b,.int .i64 n,.float .f64 f,.string t,.slice none 0 0]):=by
 obtain ⟨⟨c2,q1,q2⟩,_⟩:=h.its g hg hg2 cs hc
 have hle:=h.le
 refine h.step (setCells_os _ _ _ _) (setCells_tape _ _ _ _) (setCells_out _ _ _ _) (Nat.le_of_eq (setCells_size _ _ _ _).symm) g hg (fun k hk hne => setCells_other _ _ _ _ k hne) (.inl ⟨hg2,fun cs' hc' => ⟨fun c3 h3 => setCells_form g _ _ _ _ h3,fun i => ?_⟩⟩)
 have hth : ∀ j,j < 6 → (W.cell? ⟨g,o * 6 + j,none⟩).isSome = true:=fun j hj => by
  rw [cell_of_row W g _ c2 _ _ q1,Array.getElem?_eq_getElem (show o * 6 + j < c2.size by omega)]
  rfl
 by_cases hi2 : i = o
 ·subst hi2
  right
  have:=World.cell?_setCells_in g [.int .u8 k,.bool b,.int .i64 n,.float .f64 f,.string t,.slice none 0 0] (i * 6) W hth 5 (show 5 < 6 by decide)
  exact this
 ·left
  exact World.cell?_setCells_out g _ _ _ _ (fun _ _ => by simp only [List.length_cons,List.length_nil];omega)
theorem Spoilt.there (h : Spoilt B Bb W1 W) {g o : Nat} (hg : B ≤ g) (hg2 : g < Bb) {cs : Array Value} (hc : W1.heap[g]? = some (.cells cs 54 (0,0))) (hi : o * 6 + 6 ≤ cs.size) : W.there g (o * 6) 6:=by
 obtain ⟨⟨c2,q1,q2⟩,_⟩:=h.its g hg hg2 cs hc
 refine fun j hj => ⟨?_,frozen_of_row W g _ _ _ q1⟩
 rw [cell_of_row W g _ c2 _ _ q1,Array.getElem?_eq_getElem (show o * 6 + j < c2.size by omega)]
 rfl
end
def IR (W1 : World) (k : Nat) : Prop:=∃ cs,W1.heap[k]? = some (.cells cs 54 (0,0))
theorem setCells_kept {W1 : World} {g : Nat} (h : IR W1 g) (W : World) (o : Nat) (vs : List Value) : Kept (IR W1) W (W.setCells g o vs) :=
 ⟨setCells_os _ _ _ _,setCells_tape _ _ _ _,setCells_out _ _ _ _,Nat.le_of_eq (setCells_size _ _ _ _).symm,fun k _ hn => setCells_other _ _ _ _ k (fun e => hn (e ▸ h))⟩
abbrev overT : ByteArray:=⟨#[111,118,101,114]⟩
theorem over_info : (Tryz.prog.info? 54).map (·.size) = some (c6 5 false 0 0 overT none 0 0).size:=by kernel_rfl
theorem over_store {ops : Array Oper} {rest : List Oper} {op : Oper} {a : Act} {W : World} {Q : Exit → Act → World → Prop} (b o : Nat) (hth : Hid (W.there b o 6)) (hgd : op.guard = none) (ho : op.op = .store 54 (.tmp 18) (.tmp 17))
 (hx : a.eval (.tmp 18) = .pointer (some ⟨b,o,none⟩)) (hy : a.eval (.tmp 17) = .agg (c6 5 false 0 0 overT none 0 0))
 (h : wpList Tryz.prog ops Q rest (a.put op.dst undef) (W.setCells b o [.int .u8 5,.bool false,.int .i64 0,.float .f64 0,.string overT,.slice none 0 0])) : wpList Tryz.prog ops Q (op :: rest) a W :=
 wpList_store_mid hgd 54 (.tmp 18) (.tmp 17) ho b o (c6 5 false 0 0 overT none 0 0) hx hy hth.out over_info (one6 _ _ _ _ _ _ _ _) h
theorem spoil_nil (w : World) : Calls Tryz.prog 46 #[.slice none 0 0] w fun e w' => e = .returned (.tuple #[]) ∧ Below w.heap.size w w':=by
 go_enter Tryz.func46,Tryz.ntmps46
 go_wp2
 go_loopw [2] (fun i wr => i = .int .i64 0 ∧ Hid (Below w.heap.size w wr)) (fun _ _ => 0)
 case atStart => exact ⟨rfl,Ld (Below.refl _ _)⟩
 case round =>
  obtain ⟨rfl,hB⟩:=hrel
  go_wp2
  exact bodyPost_end (results_none rfl _ _ _) rfl ⟨rfl,hB.out⟩
theorem spoil_c [Inhabited Thr] (B Bb : Nat) (W1 : World) (hthr : thr ≤ B) : ∀ (s : Nat) (x : VI) (w : World),SizeOf.sizeOf x ≤ s → RdV W1 x → BlkV (fun k => B ≤ k ∧ k < Bb) x → Spoilt B Bb W1 w →
 Calls Tryz.prog 46 #[.slice x.A x.l.length x.c] w fun e w' => e = .returned (.tuple #[]) ∧ Spoilt B Bb W1 w' ∧ Kept (IR W1) w w':=by
 intro s
 induction s with
 | zero => intro x w hs;exfalso;cases x;simp at hs
 | succ s ih =>
 intro x w hs hX hBk hS
 have HIH:=Ld ih
 have HX:=Ld hX
 have HBK:=Ld hBk
 have HS0:=Ld hS
 have HSZ:=Ld hs
 have hlb:=hX.list.hb
 rcases x with ⟨xk,xb,xn,xf,xt,xA,xc,l⟩
 simp only [VI.A,VI.c,VI.l] at hlb ⊢
 clear ih hX hBk hS hs
 go_enter Tryz.func46,Tryz.ntmps46
 go_wp2
 go_loopw [2] (fun i wr => ∃ k : Nat,k ≤ l.length ∧ i = .int .i64 k ∧ Hid (Spoilt B Bb W1 wr) ∧ Hid (Kept (IR W1) w wr)) (fun i _ => l.length - (intOf i).toNat)
 case atStart => exact ⟨0,Nat.zero_le _,rfl,HS0,Ld (Kept.refl _ _)⟩
 case round =>
  obtain ⟨k,hk,rfl,hS,hKp⟩:=hrel
  by_cases hlt : k < l.length
  ·have HLI:=Ld (show RdI W1 xA xc l from HX.out.list)
   obtain ⟨ab,ao,rfl⟩ : ∃ ab ao,xA = some ⟨ab,ao,none⟩:=by obtain ⟨b,o,e,_⟩:=HLI.out.rd.2 (by omega);exact ⟨b,o,e⟩
   have hbb : B ≤ ab ∧ ab < Bb:=HBK.out.top (show 0 < l.length by omega) ab ao rfl
   obtain ⟨h0,_,cs,hcs,hcz⟩:=HX.out.hw (show 0 < l.length by omega) ab ao rfl (by omega)
   subst h0
   have hcc : l.length ≤ xc:=HLI.out.hc
   have HCS:=Ld hcs
   simp only [VI.c] at hcz
   have hsz : k * 6 + 6 ≤ cs.size:=by omega
   have HSZ2:=Ld hsz
   have HBB:=Ld hbb
   obtain ⟨_,_,_,_,_,p5⟩:=item_at HLI.out.rd hlt
   have HP5:=Ld p5
   have HZ:=Ld (HLI.out.hx _ (List.getElem_mem hlt))
   have HZB:=Ld (HBK.out.list _ (List.getElem_mem hlt))
   have HZS:=Ld (show SizeOf.sizeOf l[k] ≤ s by have h1:=sz_lt (List.getElem_mem hlt);have h2:=HSZ.out;simp at h2;omega)
   obtain ⟨z,hz⟩ : ∃ z,l[k] = z:=⟨_,rfl⟩
   simp only [hz] at HP5 HZ HZB HZS
   have hlist : wr.cell? ⟨ab,k * 6 + 5,none⟩ = some (.slice z.A z.l.length z.c) ∨ wr.cell? ⟨ab,k * 6 + 5,none⟩ = some (.slice none 0 0):=by
    have h5:=HP5.out
    rw [Nat.zero_add] at h5
    rcases (hS.out.its ab hbb.1 hbb.2 cs hcs).2 k with e | e
    ·left;rw [e];exact h5
    ·exact .inr e
   clear hz p5 hcs hsz hcz hcc hbb HP5
   rcases hlist with p5 | p5
   ·go_wp2_with (first
      | (go_at_call 46;go_must (refine (HIH.out z wr HZS.out HZ.out HZB.out hS.out).mono ?_;rintro e w2 ⟨rfl,hs2,hk2⟩;have HS2:=Ld hs2;have HK2:=Ld (hKp.out.trans hk2);have hth:=Ld (HS2.out.there HBB.out.1 HBB.out.2 HCS.out HSZ2.out);clear hs2 hk2 p5))
      | (refine over_store ab (k * 6) hth rfl rfl rfl rfl ?_;clear hth))
    exact ⟨⟨k + 1,by omega,by go_num,Ld (HS2.out.put HBB.out.1 HBB.out.2 HCS.out HSZ2.out),Ld (HK2.out.trans (setCells_kept ⟨_,HCS.out⟩ _ _ _))⟩,by simp [intOf];omega⟩
   ·go_wp2_with (first
      | (go_at_call 46;go_must (refine (spoil_nil wr).mono ?_;rintro e w2 ⟨rfl,hs2⟩;have HS2:=Ld (hS.out.below hs2);have HK2:=Ld (hKp.out.step hs2);have hth:=Ld (HS2.out.there HBB.out.1 HBB.out.2 HCS.out HSZ2.out);clear hs2 p5))
      | (refine over_store ab (k * 6) hth rfl rfl rfl rfl ?_;clear hth))
    exact ⟨⟨k + 1,by omega,by go_num,Ld (HS2.out.put HBB.out.1 HBB.out.2 HCS.out HSZ2.out),Ld (HK2.out.trans (setCells_kept ⟨_,HCS.out⟩ _ _ _))⟩,by simp [intOf];omega⟩
  ·go_wp2
   exact bodyPost_end (results_none rfl _ _ _) rfl ⟨rfl,hS.out,hKp.out⟩
end
section
open Go.RowKit
set_option maxHeartbeats 1000000
set_option maxRecDepth 100000
abbrev z6 : List Value:=[.int .u8 0,.bool false,.int .i64 0,.float .f64 0,.string ⟨#[]⟩,.slice none 0 0]
def Loc (w : World) (B Bb : Nat) (u : Value) : Prop:=∀ g,u.ownBlock = some g → (B ≤ g ∧ g < Bb ∧ ∃ cs,w.heap[g]? = some (.cells cs 54 (0,0))) ∨ w.heap.size ≤ g
section
variable {w W W' : World} {B Bb m : Nat} {u : Value}
theorem Spoilt.setItem (h : Spoilt B Bb w W) {g : Nat} (hl : (B ≤ g ∧ g < Bb ∧ ∃ cs,w.heap[g]? = some (.cells cs 54 (0,0))) ∨ w.heap.size ≤ g) (hB : B ≤ g) {cs : Array Value} (hg : W.heap[g]? = some (.cells cs 54 (0,0))) {c2 : Array Value} (hsz : c2.size = cs.size)
 (hc : ∀ i,c2[i * 6 + 5]? = cs[i * 6 + 5]? ∨ c2[i * 6 + 5]? = some (.slice none 0 0)) : Spoilt B Bb w (W.setRow g c2):=by
 have hrow:=setRow_heap W g cs c2 _ (0,0) hg
 refine h.step rfl rfl rfl (by simp [World.setRow]) g hB (fun k _ hk => setRow_other _ _ _ _ hk) ?_
 rcases hl with ⟨h1,h2,c0,h3⟩ | hl
 ·refine .inl ⟨h2,fun cs' _ => ⟨fun c3 h3 => ?_,fun i => ?_⟩⟩
  ·rw [hg] at h3
   cases h3
   exact ⟨c2,hrow,hsz⟩
  ·rw [cell_of_row _ _ _ _ _ _ hrow,cell_of_row _ _ _ _ _ _ hg]
   exact hc i
 ·exact .inr hl
theorem wp_app_zero {o : Oper} {a : Act} {K : Act → World → Prop} {Q : Exit → Act → World → Prop} (s x : Operand) (ho : o.op = .call { callee:=.builtin .append,args:=#[s,x],argTypes:=#[28,28] })
 (h : Spoilt B Bb w W) {xs : List Value} (hown : W.ownsRow B 54 6 u m xs) (hl : Loc w B Bb u) (hs : a.eval s = u) {gz c : Nat} (hx : a.eval x = .slice (some ⟨gz,0,none⟩) 1 c) (hz : W.heap[gz]? = some (.cells (c6 0 false 0 0 ⟨#[]⟩ none 0 0) 54 (0,0)))
 (hm : 0 < m) (hmb : (m + 1) * 64 ≤ 140737488355328)
 (hK : ∀ u' W',Spoilt B Bb w W' → (∃ xs',W'.ownsRow B 54 6 u' (m + 1) xs') → Loc w B Bb u' → W.grownBy W' u.ownBlock → K (a.put o.dst u') W') : o.wp Tryz.prog a W K Q:=by
 obtain ⟨i,hi,hz0,hz1,hz2⟩:=info_parts infoI
 have hbase : B ≤ W.heap.size:=by have:=h.size;have:=h.le;have:=h.lo;omega
 have hnews : ∀ j v,z6[j]? = some v → W.cell? ((⟨gz,0,none⟩ : Addr).add j) = some v:=fun j v hv => by
  rw [Addr.add_mid,Nat.zero_add,cell_of_row _ _ _ _ _ _ hz]
  exact (List.getElem?_toArray ..).trans hv
 have h1 : ∀ v ∈ z6,v.oneCell' = true:=by
  intro v hv
  simp only [List.mem_cons,List.not_mem_nil,or_false] at hv
  rcases hv with rfl | rfl | rfl | rfl | rfl | rfl <;> rfl
 obtain ⟨v',w',hr,h2,h3,_⟩:=run_append_own (P:=Tryz.prog) W B 28 o.type 54 i _ 6 64 Tryz.underlying28 hi hz0 hz1 hz2 rfl (by decide) u m xs hown ⟨gz,0,none⟩ 1 c z6 rfl hnews h1 (by unfold maxLen;omega) hmb hbase
 have hfin : Spoilt B Bb w w' ∧ Loc w B Bb v':=by
  rcases hown.2 with ⟨_,h0⟩ | ⟨g,cap,cur,rfl,hbg,hg,hnc,hcm,hcs,htake⟩
  ·omega
  ·by_cases hroom : m + 1 ≤ cap
   ·have hfit : m * i.size + z6.length ≤ cur.size:=by rw [hz1,hcs];show m * 6 + 6 ≤ cap * 6;omega
    have hr2:=run_append_room (P:=Tryz.prog) W 28 o.type 54 i Tryz.underlying28 hi g m cap cur hg ⟨gz,0,none⟩ 1 c z6 (by rw [hz1];rfl) hnews h1 hroom hfit
    rw [hr2] at hr
    injection hr with e1 e2
    subst e1 e2
    refine ⟨h.setItem (hl g rfl) hbg hg ?_ (fun j => ?_),fun k hk => hl k hk⟩
    ·rw [hz1] at hfit ⊢
     simp only [List.size_toArray,List.length_append,List.length_take,List.length_drop,Array.length_toList]
     omega
    ·rw [hz1] at hfit ⊢
     have hf2 : m * 6 + 6 ≤ cur.size:=hfit
     simp only [List.getElem?_toArray]
     by_cases hj : j < m
     ·left
      rw [List.append_assoc,List.getElem?_append_left (by rw [List.length_take,Array.length_toList];omega),List.getElem?_take_of_lt (by omega),Array.getElem?_toList]
     ·by_cases hj2 : j = m
      ·right
       subst hj2
       rw [List.append_assoc,List.getElem?_append_right (by rw [List.length_take,Array.length_toList];omega),List.length_take,Nat.min_eq_left (show j * 6 ≤ cur.toList.length by rw [Array.length_toList];omega),show j * 6 + 5 - j * 6 = 5 by omega]
       rfl
      ·left
       rw [List.getElem?_append_right (by rw [List.length_append,List.length_take,Array.length_toList];simp only [List.length_cons,List.length_nil];omega),List.length_append,List.length_take,Nat.min_eq_left (show m * 6 ≤ cur.toList.length by rw [Array.length_toList];omega),List.getElem?_drop,Array.getElem?_toList]
       have hjj : m * 6 + z6.length + (j * 6 + 5 - (m * 6 + z6.length)) = j * 6 + 5:=by show m * 6 + 6 + (j * 6 + 5 - (m * 6 + 6)) = j * 6 + 5;omega
       rw [hjj]
   ·have holds : ∀ j v,xs[j]? = some v → W.cell? ((⟨g,0,none⟩ : Addr).add j) = some v:=hown.cells (g:=g) rfl
    have hr2:=run_append_grow (P:=Tryz.prog) W 28 o.type 54 i _ Tryz.underlying28 hi hz0 ⟨g,0,none⟩ m cap xs (by rw [hz1];exact hown.1) holds ⟨gz,0,none⟩ 1 c z6 (by rw [hz1];rfl) hnews (by omega) (by omega) (growslice_fits (by omega) (by rw [hz2];exact hmb))
    rw [hr2] at hr
    injection hr with e1 e2
    subst e1 e2
    refine ⟨h.below ((Below.refl _ W).drew.alloc (Nat.le_refl _) _),fun k hk => .inr ?_⟩
    have h5 : W.heap.size = k:=Option.some.inj hk
    have:=h.size
    omega
 unfold Oper.wp execOp
 simp only [ho,resolve,invoke,builtin,Sem.run_bind,Sem.run_pure,Result.andThen_ok,List.map_toArray,List.map_cons,List.map_nil,hs,hx,hr]
 exact hK v' w' hfin.1 ⟨_,h2⟩ hfin.2 h3
end
end
section
open Go.RowKit
set_option maxHeartbeats 1000000
set_option maxRecDepth 100000
def Out (w : World) (B Bb : Nat) (v0 : Value) : Prop:=∀ g,v0.ownBlock = some g → B ≤ g ∧ g < Bb ∧ ∃ cs,w.heap[g]? = some (.cells cs 28 (0,0))
structure FrO (w : World) (B Bb : Nat) (v0 : Value) (R : List VI) (k : Nat) (W : World) : Prop where
 sp : Spoilt B Bb w W
 own : ∃ xs,W.ownsRow B 28 1 v0 R.length xs ∧ ∀ j,k ≤ j → xs[j]? = (R.map rcell)[j]?
structure FrI (w : World) (B Bb : Nat) (v0 : Value) (R : List VI) (k : Nat) (u0 u : Value) (m : Nat) (W : World) : Prop where
 sp : Spoilt B Bb w W
 own : ∃ xs,W.ownsRow B 28 1 v0 R.length xs ∧ xs[k]? = some u0 ∧ ∀ j,k + 1 ≤ j → xs[j]? = (R.map rcell)[j]?
 row : ∃ xs,W.ownsRow B 54 6 u m xs
 loc : Loc w B Bb u
section
variable {w W W' : World} {B Bb k m : Nat} {u u0 u' v0 : Value} {R : List VI}
theorem not_ir {g : Nat} {cs : Array Value} (h : w.heap[g]? = some (.cells cs 28 (0,0))) : ¬ IR w g:=by
 rintro ⟨c2,h2⟩
 rw [h] at h2
 injection h2 with h2
 injection h2 with _ h2 _
 exact absurd h2 (by decide)
theorem FrO.row (h : FrO w B Bb v0 R k W) (hk : k < R.length) : ∃ g cap,v0 = .slice (some ⟨g,0,none⟩) R.length cap ∧ W.cell? ⟨g,k,none⟩ = some (rcell R[k]):=by
 obtain ⟨xs,ho,hx⟩:=h.own
 rcases ho.2 with ⟨_,h0⟩ | ⟨g,cap,cur,rfl,_,hg,_,_,_,ht⟩
 ·omega
 ·refine ⟨g,cap,rfl,?_⟩
  have h1:=hx k (Nat.le_refl _)
  rw [List.getElem?_map,List.getElem?_eq_getElem hk] at h1
  have:=ho.cells (g:=g) rfl k _ h1
  rw [Addr.add_mid,Nat.zero_add] at this
  exact this
theorem fr_row [Inhabited Thr] {x : VI} (hthr : thr ≤ B) (hx : RdV w x) (hb : BlkV (fun k => B ≤ k ∧ k < Bb) x) (hl : 0 < x.l.length) (h : Spoilt B Bb w W) : (∃ xs,W.ownsRow B 54 6 (rcell x) x.l.length xs) ∧ Loc w B Bb (rcell x):=by
 obtain ⟨b,o,e,_⟩:=hx.list.rd.2 hl
 have hbb:=hb.top hl b o e
 obtain ⟨h0,hm,cs,hcs,hsz⟩:=hx.hw hl b o e (by omega)
 subst h0
 obtain ⟨⟨cs',q1,q2⟩,_⟩:=h.its b hbb.1 hbb.2 cs hcs
 have hc:=hx.list.hc
 have hcc : x.l.length * 6 ≤ cs'.size:=by rw [q2,hsz];exact Nat.mul_le_mul_right 6 hc
 refine ⟨⟨cs'.toList.take (x.l.length * 6),⟨?_,.inr ⟨b,x.c,cs',by rw [rcell,e],hbb.1,q1,hc,hm,q2.trans hsz,rfl⟩⟩⟩,fun g hg => .inl ?_⟩
 ·rw [List.length_take]
  exact Nat.min_eq_left (by rw [Array.length_toList];exact hcc)
 ·rw [rcell,e] at hg
  cases hg
  exact ⟨hbb.1,hbb.2,cs,hcs⟩
theorem FrI.start [Inhabited Thr] (hthr : thr ≤ B) (h : FrO w B Bb v0 R k W) (hv : Out w B Bb v0) (hk : k < R.length) {x : VI} (hx : R[k] = x) (hX : RdV w x) (hb : BlkV (fun k => B ≤ k ∧ k < Bb) x) (hl : 0 < x.l.length) (hs : Spoilt B Bb w W') (hkp : Kept (IR w) W W') :
 FrI w B Bb v0 R k (rcell x) (rcell x) x.l.length W':=by
 obtain ⟨xs,ho,hxs⟩:=h.own
 obtain ⟨h1,h2⟩:=fr_row hthr hX hb hl hs
 refine ⟨hs,⟨xs,own_kept ho hkp (fun g hg => ?_),?_,fun j hj => hxs j (by omega)⟩,h1,h2⟩
 ·obtain ⟨_,_,cs,hcs⟩:=hv g hg
  exact not_ir hcs
 ·rw [hxs k (Nat.le_refl _),List.getElem?_map,List.getElem?_eq_getElem hk,hx];rfl
theorem FrI.stop (h : FrI w B Bb v0 R k u0 u m W) : FrO w B Bb v0 R (k + 1) W:=by
 obtain ⟨xs,ho,_,hxs⟩:=h.own
 exact ⟨h.sp,xs,ho,hxs⟩
theorem FrI.below (h : FrI w B Bb v0 R k u0 u m W) (hb : Below W.heap.size W W') : FrI w B Bb v0 R k u0 u m W':=by
 obtain ⟨xs,ho,h2⟩:=h.own
 obtain ⟨ys,hr⟩:=h.row
 exact ⟨h.sp.below hb,⟨xs,own_below ho hb,h2⟩,⟨ys,own_below hr hb⟩,h.loc⟩
theorem out_ne (hv : Out w B Bb v0) (hl : Loc w B Bb u) (hs : Bb ≤ w.heap.size) {g : Nat} (h0 : v0.ownBlock = some g) (h1 : u.ownBlock = some g) : False:=by
 obtain ⟨_,h2,cs,h3⟩:=hv g h0
 rcases hl g h1 with ⟨_,_,c2,h4⟩ | h4
 ·exact not_ir h3 ⟨c2,h4⟩
 ·omega
theorem FrI.app (h : FrI w B Bb v0 R k u0 u m W) (hv : Out w B Bb v0) (hs : Spoilt B Bb w W') {n : Nat} (hr : ∃ xs,W'.ownsRow B 54 6 u' n xs) (hl : Loc w B Bb u') (hg : W.grownBy W' u.ownBlock) : FrI w B Bb v0 R k u0 u' n W':=by
 obtain ⟨xs,ho,h2⟩:=h.own
 refine ⟨hs,⟨xs,ho.kept hg ?_,h2⟩,hr,hl⟩
 cases h0 : v0.ownBlock with
 | none => exact .inl rfl
 | some g => exact .inr fun e => out_ne hv h.loc h.sp.le h0 e.symm
theorem FrI.cell (h : FrI w B Bb v0 R k u0 u m W) {g cap : Nat} (e : v0 = .slice (some ⟨g,0,none⟩) R.length cap) : W.cell? ⟨g,k,none⟩ = some u0 ∧ W.frozen? ⟨g,k,none⟩ = false:=by
 subst e
 obtain ⟨xs,ho,h2,_⟩:=h.own
 have:=ho.cells (g:=g) rfl k _ h2
 rw [Addr.add_mid,Nat.zero_add] at this
 refine ⟨this,?_⟩
 rcases ho.2 with ⟨h3,_⟩ | ⟨g',cap',cur,h3,_,hg,_⟩
 ·cases h3
 ·cases h3;exact frozen_of_row W g k _ _ hg
theorem take_set {xs : List Value} {cur : Array Value} {n : Nat} (ht : cur.toList.take n = xs) (i : Nat) (v : Value) : (cur.setIfInBounds i v).toList.take n = xs.set i v:=by
 rw [← ht,Array.toList_setIfInBounds,List.take_set]
theorem FrI.point (h : FrI w B Bb v0 R k u0 u m W) (hv : Out w B Bb v0) {g cap : Nat} (e : v0 = .slice (some ⟨g,0,none⟩) R.length cap) (hk : k < R.length) : FrI w B Bb v0 R k u u m (W.setCell ⟨g,k,none⟩ u):=by
 subst e
 obtain ⟨xs,ho,h2,h3⟩:=h.own
 obtain ⟨ys,hr⟩:=h.row
 obtain ⟨hB,hBb,c0,hc0⟩:=hv g rfl
 rcases ho.2 with ⟨h4,_⟩ | ⟨g',cap',cur,h4,hbg,hg,hn,hm,hs,ht⟩
 ·cases h4
 ·cases h4
  have hset:=heap_setCell_same W g k cur 28 u hg
  have hkk : Kept (fun j => j = g) W (W.setCell ⟨g,k,none⟩ u):=(Kept.refl _ _).setCell _ (.inl rfl)
  refine ⟨h.sp.step rfl rfl rfl hkk.size g hB (fun j hj hne => hkk.block j hj hne) (.inl ⟨hBb,fun cs hcs => ?_⟩),⟨xs.set k u,⟨by rw [List.length_set];exact ho.1,.inr ⟨g,cap,_,rfl,hbg,hset,hn,hm,by simpa using hs,take_set ht _ _⟩⟩,?_,fun j hj => ?_⟩,⟨ys,own_kept hr hkk (fun j hj e => out_ne hv h.loc h.sp.le rfl (e ▸ hj))⟩,h.loc⟩
  ·exact absurd ⟨cs,hcs⟩ (not_ir hc0)
  ·have hl:=ho.1
   rw [List.getElem?_set_self (by omega)]
  ·rw [List.getElem?_set_ne (by omega)]
   exact h3 j hj
theorem FrI.form (h : FrI w B Bb v0 R k u0 u m W) (hm : 0 < m) : ∃ b cap,u = .slice (some ⟨b,0,none⟩) m cap:=by
 obtain ⟨ys,hr⟩:=h.row
 rcases hr.2 with ⟨_,h0⟩ | ⟨b,cap,cur,rfl,_⟩
 ·omega
 ·exact ⟨b,cap,rfl⟩
theorem FrI.there {b cap : Nat} (h : FrI w B Bb v0 R k u0 (.slice (some ⟨b,0,none⟩) m cap) m W) {j : Nat} (hj : j < m) : W.there b (j * 6) 6:=by
 obtain ⟨ys,hr⟩:=h.row
 rcases hr.2 with ⟨h4,_⟩ | ⟨g',cap',cur,h4,hbg,hg,hn,hm,hs,ht⟩
 ·cases h4
 ·cases h4
  refine fun i hi => ⟨?_,frozen_of_row W b _ _ _ hg⟩
  rw [cell_of_row W b _ cur _ _ hg,Array.getElem?_eq_getElem (show j * 6 + i < cur.size by omega)]
  rfl
theorem FrI.item {b cap : Nat} (h : FrI w B Bb v0 R k u0 (.slice (some ⟨b,0,none⟩) m cap) m W) (hv : Out w B Bb v0) {j : Nat} (hj : j < m) {ik n : Int} {ib : Bool} {f : Nat} {t : ByteArray} :
 FrI w B Bb v0 R k u0 (.slice (some ⟨b,0,none⟩) m cap) m (W.setCells b (j * 6) [.int .u8 ik,.bool ib,.int .i64 n,.float .f64 f,.string t,.slice none 0 0]):=by
 have hth:=h.there hj
 obtain ⟨xs,ho,h2⟩:=h.own
 obtain ⟨ys,hr⟩:=h.row
 rcases hr.2 with ⟨h4,_⟩ | ⟨g',cap',cur,h4,hbg,hg,hn,hm,hs,ht⟩
 ·cases h4
 ·cases h4
  obtain ⟨c2,q1,q2⟩:=setCells_form b [.int .u8 ik,.bool ib,.int .i64 n,.float .f64 f,.string t,.slice none 0 0] (j * 6) W cur hg
  have hkk : Kept (fun i => i = b) W (W.setCells b (j * 6) [.int .u8 ik,.bool ib,.int .i64 n,.float .f64 f,.string t,.slice none 0 0]) :=
   ⟨setCells_os _ _ _ _,setCells_tape _ _ _ _,setCells_out _ _ _ _,Nat.le_of_eq (setCells_size _ _ _ _).symm,fun i _ hn => setCells_other _ _ _ _ i hn⟩
  have hcell : ∀ i,(W.setCells b (j * 6) [.int .u8 ik,.bool ib,.int .i64 n,.float .f64 f,.string t,.slice none 0 0]).cell? ⟨b,i * 6 + 5,none⟩ = W.cell? ⟨b,i * 6 + 5,none⟩ ∨ (W.setCells b (j * 6) [.int .u8 ik,.bool ib,.int .i64 n,.float .f64 f,.string t,.slice none 0 0]).cell? ⟨b,i * 6 + 5,none⟩ = some (.slice none 0 0):=by
   intro i
   by_cases hi : i = j
   ·right
    subst hi
    exact World.cell?_setCells_in b [.int .u8 ik,.bool ib,.int .i64 n,.float .f64 f,.string t,.slice none 0 0] (i * 6) W (fun q hq => (hth q hq).1) 5 (show 5 < 6 by decide)
   ·left
    exact World.cell?_setCells_out b _ _ _ _ (fun _ _ => by simp only [List.length_cons,List.length_nil];omega)
  refine ⟨h.sp.step hkk.os hkk.tape hkk.output hkk.size b hbg (fun i hi hne => hkk.block i hi hne) ?_,⟨xs,own_kept ho hkk (fun i hi e => out_ne hv h.loc h.sp.le hi (by rw [e];rfl)),h2⟩,⟨c2.toList.take (m * 6),⟨?_,.inr ⟨b,cap,c2,rfl,hbg,q1,hn,hm,q2.trans hs,rfl⟩⟩⟩,h.loc⟩
  ·rcases h.loc b rfl with ⟨_,h5,cs,h6⟩ | h5
   ·refine .inl ⟨h5,fun cs' _ => ⟨fun c3 h3 => ?_,hcell⟩⟩
    rw [hg] at h3
    cases h3
    exact ⟨c2,q1,q2⟩
   ·exact .inr h5
  ·rw [List.length_take,Array.length_toList];omega
end
end
end Go.Proofs.YtonjgedhmmnolaaGreatDoor
