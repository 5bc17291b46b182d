import Derived.Test.YtonjgedhmmnolaaGreatDoorZ5b
import Derived.Maps.OwnOps
import Derived.Maps.Views
namespace Go.Proofs.YtonjgedhmmnolaaGreatDoor
section
open Go.RowKit
set_option maxHeartbeats 1000000
set_option maxRecDepth 100000
def VI.zero : VI:=.mk 0 false 0 0 ⟨#[]⟩ none 0 []
def ItemEnd [Inhabited Thr] (w0 : World) (g b f d m : Nat) (bs : List UInt8) (w : World) (e : Ending) (w' : World) : Prop :=
 ∃ Y : VI,e = .returned (.tuple #[Y.val,.bool (parI f d m bs).isSome]) ∧ Kept (fun j => j = g) w w' ∧
   ∀ p,parI f d m bs = some p → Y.data = p.1 ∧ RdV w' Y ∧ BlkV (fun k => w.heap.size ≤ k) Y ∧ Src w0 g b p.2.1 p.2.2 w' ∧ p.2.2 ≤ 64
theorem itemEnd_none [Inhabited Thr] {w0 w w' : World} {g b f d m : Nat} {bs : List UInt8} (h : parI f d m bs = none) (hk : Kept (fun j => j = g) w w') {Y : VI} {v : Value} (hv : v = .tuple #[Y.val,.bool false]) : ItemEnd w0 g b f d m bs w (.returned v) w' :=
 ⟨Y,by rw [h,hv];rfl,hk,fun p hp => by rw [h] at hp;cases hp⟩
theorem parI_nil (f d m : Nat) : parI f d m [] = none:=by cases f <;> rw [parI]
theorem parI_64 (f d : Nat) (bs : List UInt8) : parI f d 64 bs = none:=by cases f <;> cases bs <;> rw [parI] <;> rfl
theorem one6 (k n : Int) (b : Bool) (f : Nat) (t : ByteArray) (A : Option Addr) (l c : Nat) : (#[Value.int .u8 k,.bool b,.int .i64 n,.float .f64 f,.string t,.slice A l c]).all (·.oneCell') = true:=by
 rw [Array.all_eq_true_iff_forall_mem]
 intro v hv
 simp only [List.mem_toArray,List.mem_cons,List.not_mem_nil,or_false] at hv
 rcases hv with rfl | rfl | rfl | rfl | rfl | rfl <;> rfl
structure ItAt (w : World) (g : Nat) (W : World) : Prop where
 r4 : W.heap[w.heap.size]? = some (.cells #[.int .u8 0,.bool false,.int .i64 0,.float .f64 0,.string ⟨#[]⟩,.slice none 0 0] 54 (0,0))
 r6 : W.heap[w.heap.size + 1]? = some (.cells #[.int .u8 0,.bool false,.int .i64 0,.float .f64 0,.string ⟨#[]⟩,.slice none 0 0] 54 (0,0))
 kept : Kept (fun j => j = g) w W
 lt : g < w.heap.size
section
variable {w0 w W W' : World} {g b m o c : Nat} {bs r : List UInt8} {t : UInt8}
theorem ItAt.next (h : ItAt w g W) (hk : Kept (fun j => j = g) W W') : ItAt w g W' :=
 have h4:=(Array.getElem?_eq_some_iff.1 h.r4).1
 have h6:=(Array.getElem?_eq_some_iff.1 h.r6).1
 have hl:=h.lt
 ⟨(hk.block _ h4 (by omega)).trans h.r4,(hk.block _ h6 (by omega)).trans h.r6,h.kept.trans hk,h.lt⟩
theorem ItAt.count (h : ItAt w g W) (_ : Src w0 g b bs m W) {v : Value} : ItAt w g (W.setCell ⟨g,1,none⟩ v):=h.next ((Kept.refl _ _).setCell _ (.inl rfl))
theorem Src.two (h : Src w0 g b bs m W) (o1 o2 : Obj) : Src w0 g b bs m ((W.alloc o1).alloc o2):=h.step (((Below.refl _ _).alloc (Nat.le_refl _) _).alloc (by simp) _)
theorem Src.items (h : Src w0 g b bs m W) : W.cell? ⟨g,1,none⟩ = some (.int .i64 m) ∧ W.frozen? ⟨g,1,none⟩ = false:=by
 obtain ⟨o,c,_,_,hb⟩:=h.ex
 exact ⟨(cells2 hb).1.2,(cells2 hb).2.2⟩
end
theorem ItAt.start {w W : World} {g : Nat} (hg : g < w.heap.size) (h : Kept (fun j => j = g) ((w.alloc (.cells #[.int .u8 0,.bool false,.int .i64 0,.float .f64 0,.string ⟨#[]⟩,.slice none 0 0] 54)).alloc (.cells #[.int .u8 0,.bool false,.int .i64 0,.float .f64 0,.string ⟨#[]⟩,.slice none 0 0] 54)) W) : ItAt w g W:=by
 refine ItAt.next ⟨?_,?_,?_,hg⟩ h
 ·exact (((Below.refl _ _).alloc (Nat.le_refl _) _).block _ (by simp)).trans (heap_alloc_new w _)
 ·exact alloc2_at w _ _
 ·exact ((Kept.refl _ w).alloc _).alloc _
theorem gulped {w0 W : World} {g b o m : Nat} {bs rest : List UInt8} {t : UInt8} (hB : RdB W b o (t :: bs)) (hS : Src w0 g b rest m W) (hb : b < w0.heap.size) (v : Value) : (W.setCell ⟨g,1,none⟩ v).cell? ⟨b,o,none⟩ = some (.int .u8 (t.toNat : Int)):=by
 rw [World.cell?_setCell_other (h:=by intro e;cases e;have:=hS.hg;omega)]
 exact hB 0 t rfl
theorem Kept.setRow {S : Nat → Prop} {a b : World} (h : Kept S a b) {k : Nat} (hk : a.heap.size ≤ k) (cs : Array Value) : Kept S a (b.setRow k cs) :=
 h.young (T:=fun j => j = k) (by
  have hb:=below_setRow (Below.refl k b) (Nat.le_refl k) cs
  exact ⟨hb.os,hb.tape,hb.output,hb.size,fun i _ hne => setRow_other b k i cs hne⟩) (fun j e => .inr (by omega))
theorem setRow_kept (b : World) (k : Nat) (cs : Array Value) : Kept (fun j => j = k) b (b.setRow k cs):=by
 have hb:=below_setRow (Below.refl k b) (Nat.le_refl k) cs
 exact ⟨hb.os,hb.tape,hb.output,hb.size,fun i _ hne => setRow_other b k i cs hne⟩
theorem RdV.plain [Inhabited Thr] (W : World) (k : Int) (b : Bool) (n : Int) (f : Nat) (t : ByteArray) (ht : t.size ≤ 140737488355328) (hk : 0 ≤ k ∧ k ≤ 255) (hf : f < 18446744073709551616) (hn : -9223372036854775808 ≤ n ∧ n ≤ 9223372036854775807) : RdV W (.mk k b n f t none 0 []) :=
 .mk _ .none_ (Nat.le_refl _) (by simp [VI.l]) ht hk hf hn (by simp [VI.l]) (by simp [VI.l])
theorem BlkV.plain (P : Nat → Prop) (k : Int) (b : Bool) (n : Int) (f : Nat) (t : ByteArray) : BlkV P (.mk k b n f t none 0 []):=.mk _ (by simp [VI.l]) (by simp [VI.l])
theorem item_fin [Inhabited Thr] {w0 w W : World} {g b f d m : Nat} {bs : List UInt8} (hA : ItAt w g W) (Y : VI) (ok : Bool) (hok : ok = (parI f d m bs).isSome)
 (h : ∀ p,parI f d m bs = some p → Y.data = p.1 ∧ RdV W Y ∧ BlkV (fun k => w.heap.size + 2 ≤ k) Y ∧ Src w0 g b p.2.1 p.2.2 W ∧ p.2.2 ≤ 64) (cs : Array Value) (hcs : cs = Y.cells.toArray) :
 ItemEnd w0 g b f d m bs w (.returned (.tuple #[.agg cs,.bool ok])) (W.setRow w.heap.size cs):=by
 subst hok hcs
 refine ⟨Y,rfl,hA.kept.setRow (Nat.le_refl _) _,fun p hp => ?_⟩
 obtain ⟨h1,h2,h3,h4,h5⟩:=h p hp
 exact ⟨h1,h2.kept (setRow_kept _ _ _) (h3.mono fun k hk => by omega),h3.mono fun k hk => by omega,h4.kept (setRow_kept _ _ _) (fun k hk => by have:=hA.lt;omega),h5⟩
end
section
open Go.RowKit
set_option maxHeartbeats 1000000
set_option maxRecDepth 100000
structure LstAt [Inhabited Thr] (w0 w : World) (g b f d m : Nat) (r : List UInt8) (v : Value) (acc : List VI) (rest : List UInt8) (m' : Nat) (W : World) : Prop where
 own : OwnI W (w.heap.size + 2) v acc
 src : Src w0 g b rest m' W
 at_ : ItAt w g W
 blk : ∀ x ∈ acc,BlkV (fun k => w.heap.size + 2 ≤ k) x
 hm : m' ≤ 64
 cnt : acc.length ≤ m'
 len : rest.length ≤ 4096
 par : ∃ F,2 * rest.length + 2 ≤ F ∧ F ≤ f ∧ parL f (d + 1) (m + 1) r = (parL F (d + 1) m' rest).map fun p => (VI.dataL acc ++ p.1,p.2)
section
variable {w0 w W W' : World} {g b f d m m' : Nat} {r rest : List UInt8} {v v' : Value} {acc : List VI}
theorem LstAt.base [Inhabited Thr] (h : LstAt w0 w g b f d m r v acc rest m' W) : w.heap.size + 2 ≤ W.heap.size:=(Array.getElem?_eq_some_iff.1 h.at_.r6).1
theorem LstAt.ownge [Inhabited Thr] (h : LstAt w0 w g b f d m r v acc rest m' W) : ∀ k,v.ownBlock = some k → w.heap.size + 2 ≤ k ∧ k < W.heap.size:=h.own.own.lt
theorem LstAt.put [Inhabited Thr] (h : LstAt w0 w g b f d m r v acc rest m' W) {Y : VI} {rest' : List UInt8} {m2 : Nat} (hW : World) (hk1 : Kept (fun j => j = g) W hW) (hS : Src w0 g b rest' m2 hW)
 (hY : BlkV (fun k => W.heap.size ≤ k) Y) (hw : OwnI W' (w.heap.size + 2) v' (acc ++ [Y])) (hk : Kept (fun k => v.ownBlock = some k) hW W') (hm2 : m' < m2 ∧ m2 ≤ 64) (hlen : rest'.length < rest.length)
 {F : Nat} (hF1 : 2 * rest.length + 2 ≤ F + 1) (hF2 : F + 1 ≤ f) (hF3 : parL f (d + 1) (m + 1) r = (parL (F + 1) (d + 1) m' rest).map fun p => (VI.dataL acc ++ p.1,p.2)) (hp : parL (F + 1) (d + 1) m' rest = (parL F (d + 1) m2 rest').map fun p => (Y.data :: p.1,p.2)) : LstAt w0 w g b f d m r v' (acc ++ [Y]) rest' m2 W':=by
 have hb:=h.base
 have hge:=h.ownge
 have hlt:=h.at_.lt
 have hA:=h.at_.next hk1
 have h4:=(Array.getElem?_eq_some_iff.1 hA.r4).1
 have h6:=(Array.getElem?_eq_some_iff.1 hA.r6).1
 refine ⟨hw,hS.kept hk (fun k hkg e => by have:=hge k e;omega),⟨(hk.block _ h4 (fun e => by have:=hge _ e;omega)).trans hA.r4,(hk.block _ h6 (fun e => by have:=hge _ e;omega)).trans hA.r6,hA.kept.young hk (fun j e => .inr (by have:=hge j e;omega)),hlt⟩,?_,hm2.2,?_,by have:=h.len;omega,⟨F,by omega,by omega,?_⟩⟩
 ·intro x hx
  rcases List.mem_append.1 hx with hx | hx
  ·exact h.blk x hx
  ·obtain rfl : x = Y:=by simpa using hx
   exact hY.mono fun k hk => by omega
 ·have:=h.cnt
  simp only [List.length_append,List.length_cons,List.length_nil]
  omega
 ·rw [hF3,hp,map_map']
  congr 1
  funext p
  simp [dataL_eq]
end
theorem LstAt.start [Inhabited Thr] {w0 w W : World} {g b f d m : Nat} {r : List UInt8} (hA : ItAt w g W) (hS : Src w0 g b r (m + 1) W) (hm : m + 1 ≤ 64) (hlen : r.length ≤ 4096) (hf : 2 * r.length + 2 ≤ f) : LstAt w0 w g b f d m r (.slice none 0 0) [] r (m + 1) W :=
 ⟨.nil _ _,hS,hA,by simp,hm,by simp,hlen,⟨f,hf,Nat.le_refl _,by cases parL f (d + 1) (m + 1) r <;> simp [VI.dataL]⟩⟩
theorem two_below (w : World) (o1 o2 : Obj) : Below w.heap.size w ((w.alloc o1).alloc o2):=((Below.refl _ _).alloc (Nat.le_refl _) _).alloc (by simp) _
theorem OwnI.two [Inhabited Thr] {w : World} {B : Nat} {v : Value} {l : List VI} (h : OwnI w B v l) (o1 o2 : Obj) : OwnI ((w.alloc o1).alloc o2) B v l:=h.below (two_below w o1 o2)
theorem own_block {w : World} {base : Nat} {e : TypeId} {size n c : Nat} {A : Option Addr} {xs : List Value} (h : w.ownsRow base e size (.slice A n c) n xs) : ∀ b o,A = some ⟨b,o,none⟩ → base ≤ b ∧ b < w.heap.size:=by
 intro b o e
 subst e
 exact h.lt b rfl
theorem lst_rd [Inhabited Thr] {w : World} {B c : Nat} {A : Option Addr} {acc : List VI} (h : OwnI w B (.slice A acc.length c) acc) (hl : acc.length * 64 ≤ 140737488355328) : RdV w (VI.mk 6 false 0 0 ⟨#[]⟩ A c acc):=by
 obtain ⟨A',c',e,hR⟩:=h.rdi hl
 cases e
 exact .mk _ hR.rd hR.hc hR.hb (show (0 : Nat) ≤ _ by omega) (show (0 : Int) ≤ 6 ∧ (6 : Int) ≤ 255 by decide) (show 0 < 18446744073709551616 by decide) (show (-9223372036854775808 : Int) ≤ 0 ∧ (0 : Int) ≤ 9223372036854775807 by decide) hR.hx (fun _ b o e _ => own_hw h.own b o e)
theorem lst_blk [Inhabited Thr] {w0 w W : World} {g b f d m m' c : Nat} {r rest : List UInt8} {A : Option Addr} {acc : List VI} (h : LstAt w0 w g b f d m r (.slice A acc.length c) acc rest m' W) (hb : ∀ b o,A = some ⟨b,o,none⟩ → w.heap.size + 2 ≤ b ∧ b < W.heap.size) :
 BlkV (fun k => w.heap.size + 2 ≤ k) (VI.mk 6 false 0 0 ⟨#[]⟩ A c acc):=.mk _ (fun _ b o e => (hb b o e).1) h.blk
theorem item_list [Inhabited Thr] (w0 : World) (g b : Nat) (hbw : b < w0.heap.size) (s f d m : Nat) (r : List UInt8) (w : World) (hfs : f ≤ s) (hf : 2 * r.length + 2 ≤ f) (hd8 : d < 8) (hm1 : m + 1 ≤ 64) (hm64 : ((m : Int) == 64) = false) (hS : Src w0 g b (40 :: r) m w)
 (hb : Hid ((40 :: r : List UInt8).length ≤ 4096)) (HIH : Hid (∀ (f d m : Nat) (bs : List UInt8) (w : World),f ≤ s → 2 * bs.length + 1 ≤ f → d ≤ 8 → m ≤ 64 → Src w0 g b bs m w → Hid (bs.length ≤ 4096) →
   Calls Tryz.prog 101 #[.pointer (some ⟨g,0,none⟩),.int .i64 d] w (ItemEnd w0 g b f d m bs w))) :
 Calls Tryz.prog 101 #[.pointer (some ⟨g,0,none⟩),.int .i64 d] w (ItemEnd w0 g b (f + 1) d m (40 :: r) w):=by
 have HS:=Ld hS
 have hg:=hS.lt
 have HFS:=Ld hfs
 have HF:=Ld hf
 have HG0:=Ld (fun o1 o2 => gulp_k w0 g b m 1 (40 :: r) _ (HS.out.two o1 o2))
 have HPI:=Ld (show parI (f + 1) d m (40 :: r) = match parL f (d + 1) (m + 1) r with
  | some (l,_ :: r,m) => some (.mk 6 false 0 0 ⟨#[]⟩ l,r,m)
  | _ => none by
  rw [parI_cons,if_neg (by omega)]
  simp only [show (40 : UInt8) = 1 ↔ False by decide,show (40 : UInt8) = 2 ↔ False by decide,show (40 : UInt8) = 3 ↔ False by decide,show (12 ≤ (40 : UInt8).toNat ∧ (40 : UInt8).toNat ≤ 28) ↔ False by decide,show (40 : UInt8) = 32 ↔ False by decide,show (40 : UInt8) = 36 ↔ False by decide,or_self,if_false,hd8,and_self,if_true]
  rfl)
 have hdd : (d : Int) < 8:=by omega
 clear hS hfs hf
 go_enter Tryz.func101,Tryz.ntmps101
 go_wp2_with (first
  | (go_at_call 125;refine (HG0.out _ _).mono ?_;rintro e w1 he;obtain ⟨o,c,rfl,h1,h2,h3,h4⟩:=he.full (by simp);have HA:=Ld (ItAt.start hg h4);have k0:=gulped (h1.below (h3.bel.mono h3.hg)) h3 hbw;obtain ⟨q1,f1⟩:=h3.items;have HA2:=Ld (fun v => HA.out.count (v:=v) h3);have H3:=Ld (h3.count (m + 1) ((m : Int) + 1) (by omega));clear he h1 h3 h4))
 have HL0:=Ld (LstAt.start (f:=f) (d:=d) (r:=r) (HA2.out (.int .i64 ((m : Int) + 1))) H3.out hm1 (by have:=hb.out;simp only [List.length_cons] at this;omega) HF.out)
 go_loopw [16] (fun v wr => ∃ (acc : List VI) (rest : List UInt8) (m' : Nat),Hid (LstAt w0 w g b f d m r v acc rest m' wr)) (fun _ wr => srcLen wr g)
 case atStart => exact ⟨_,_,_,HL0⟩
 case round =>
  obtain ⟨acc,rest,m',hL⟩:=hrel
  have hb64 : acc.length * 64 ≤ 140737488355328:=by have:=hL.out.cnt;have:=hL.out.hm;omega
  obtain ⟨A,cA,hv,hRI⟩:=hL.out.own.rdi hb64
  subst hv
  have HRI:=Ld hRI
  have HOB:=Ld (own_block hL.out.own.own)
  obtain ⟨F,hF1,hF2,hF3⟩:=hL.out.par
  obtain ⟨F,rfl⟩ : ∃ F',F = F' + 1:=⟨F - 1,by omega⟩
  have HF1:=Ld hF1
  have HF2:=Ld hF2
  have HF3:=Ld hF3
  obtain ⟨o2,c2,hB2,hc2,hbox⟩:=hL.out.src.ex
  obtain ⟨⟨q0,_⟩,_⟩:=cells2 hbox
  have HB2:=Ld (hB2.below (hL.out.src.bel.mono hL.out.src.hg))
  clear hRI hF1 hF2 hF3 hbox hB2 hb64 k0 q1 f1
  cases rest with
  | nil =>
    have HP:=Ld (show parI (f + 1) d m (40 :: r) = none by rw [HPI.out,HF3.out,parL_nil];rfl)
    go_wp2_with (first
     | (go_at_call 125;go_must (refine (gulp_k w0 g b m' 1 [] _ hL.out.src).mono ?_;rintro e w2 he;obtain ⟨rfl,rfl⟩:=he.short (by decide);clear he))
     | (refine wpList_store_row rfl 54 (.tmp 4) (.tmp 141) rfl w.heap.size #[.int .u8 6,.bool false,.int .i64 0,.float .f64 0,.string ⟨#[]⟩,.slice A acc.length cA] rfl rfl 54 _ hL.out.at_.r4 (by kernel_rfl) rfl (one6 _ _ _ _ _ _ _ _) ?_))
    exact bodyPost_ret (results_ct rfl _ _ w.heap.size 54 _ (0,0) _ rfl (setRow_block _ _ _ _ _ _ hL.out.at_.r4) Tryz.underlying54 rfl (by kernel_rfl)) rfl (item_fin hL.out.at_ (VI.mk 6 false 0 0 ⟨#[]⟩ A cA acc) _ (congrArg Option.isSome HP.out).symm (fun p hp => by rw [HP.out] at hp;cases hp) _ rfl)
  | cons x r' =>
    have kx : wr.cell? ⟨b,o2,none⟩ = some (.int .u8 (x.toNat : Int)):=HB2.out 0 x rfl
    by_cases hx : x = 0
    ·subst hx
     have HP:=Ld (show parI (f + 1) d m (40 :: r) = some (.mk 6 false 0 0 ⟨#[]⟩ (VI.dataL acc),r',m') by rw [HPI.out,HF3.out,parL_zero];simp)
     go_wp2_with (first
      | (go_at_call 125;go_must (refine (gulp_k w0 g b m' 1 (0 :: r') _ hL.out.src).mono ?_;rintro e w2 he;obtain ⟨o3,c3,rfl,h1,h2,h3,h4⟩:=he.full (by simp);have HA4:=Ld (hL.out.at_.next h4);have HO4:=Ld (hL.out.own.kept h4 (fun k hk e => by have:=hL.out.ownge k hk;have:=hL.out.at_.lt;omega) (fun y hy => (hL.out.blk y hy).mono fun k hk e => by have:=hL.out.at_.lt;omega));have H4:=Ld h3;clear he h1 h3 h4))
      | (refine wpList_store_row rfl 54 (.tmp 4) (.tmp 141) rfl w.heap.size #[.int .u8 6,.bool false,.int .i64 0,.float .f64 0,.string ⟨#[]⟩,.slice A acc.length cA] rfl rfl 54 _ HA4.out.r4 (by kernel_rfl) rfl (one6 _ _ _ _ _ _ _ _) ?_))
     exact bodyPost_ret (results_ct rfl _ _ w.heap.size 54 _ (0,0) _ rfl (setRow_block _ _ _ _ _ _ HA4.out.r4) Tryz.underlying54 rfl (by kernel_rfl)) rfl (item_fin HA4.out (VI.mk 6 false 0 0 ⟨#[]⟩ A cA acc) _ (congrArg Option.isSome HP.out).symm (fun p hp => by rw [HP.out] at hp;cases hp;exact ⟨rfl,lst_rd HO4.out (by have:=hL.out.cnt;have:=hL.out.hm;omega),lst_blk hL.out HOB.out,H4.out,hL.out.hm⟩) _ rfl)
    ·have hx0 : ((x.toNat : Int) == 0) = false:=u8_ne hx
     have hx1 : ((x.toNat : Int) != 0) = true:=by rw [bne,hx0];rfl
     have hlenT:=Ld hL.out.src.len
     have HREC:=Ld (HIH.out F (d + 1) m' (x :: r') wr (by have:=HF2.out;have:=HFS.out;omega) (by have:=HF1.out;omega) (by omega) hL.out.hm hL.out.src (Ld hL.out.len))
     have HPC:=Ld (fun F d m => parL_cons F d m x r' hx)
     have hdd1 : ((d + 1 : Nat) : Int) = (d : Int) + 1:=by omega
     rw [hdd1] at HREC
     clear hdd1 hx
     cases hpx : parI F (d + 1) m' (x :: r') with
     | none =>
       have HP:=Ld (show parI (f + 1) d m (40 :: r) = none by rw [HPI.out,HF3.out,HPC.out,hpx];rfl)
       have HPX:=Ld hpx
       clear hpx
       go_wp2_with (first
        | (go_at_call 101;go_must (refine HREC.out.mono ?_;rintro e w2 ⟨Y,rfl,hk,hy⟩;rw [HPX.out];rcases Y with ⟨yk,yb,yn,yf,yt,yA,yc,yl⟩;simp only [VI.val,VI.k,VI.b,VI.n,VI.f,VI.t,VI.A,VI.c,VI.l,Option.isSome_none];have HA4:=Ld ((hL.out.at_.next hk).next ((Kept.refl _ w2).alloc (.cells #[.int .u8 yk,.bool yb,.int .i64 yn,.float .f64 yf,.string yt,.slice yA yl.length yc] 54)));clear hk hy q0 kx))
        | (refine wpList_load_row rfl 54 (.tmp 6) rfl (w.heap.size + 1) rfl 54 #[.int .u8 0,.bool false,.int .i64 0,.float .f64 0,.string ⟨#[]⟩,.slice none 0 0] (0,0) _ HA4.out.r6 Tryz.underlying54 rfl (by kernel_rfl) ?_)
        | (refine wpList_store_row rfl 54 (.tmp 4) (.tmp 130) rfl w.heap.size #[.int .u8 0,.bool false,.int .i64 0,.float .f64 0,.string ⟨#[]⟩,.slice none 0 0] rfl rfl 54 _ HA4.out.r4 (by kernel_rfl) rfl (one6 _ _ _ _ _ _ _ _) ?_))
       exact bodyPost_ret (results_ct rfl _ _ w.heap.size 54 _ (0,0) _ rfl (setRow_block _ _ _ _ _ _ HA4.out.r4) Tryz.underlying54 rfl (by kernel_rfl)) rfl (item_fin HA4.out (VI.zero) _ (congrArg Option.isSome HP.out).symm (fun p hp => by rw [HP.out] at hp;cases hp) _ rfl)
     | some p =>
       have HPX:=Ld hpx
       clear hpx
       go_wp2_with (first
        | (go_at_call 101;go_must (refine HREC.out.mono ?_;rintro e w2 ⟨Y,rfl,hk,hy⟩;obtain ⟨y1,y2,y3,y4,y5⟩:=hy p HPX.out;rw [HPX.out];rcases Y with ⟨yk,yb,yn,yf,yt,yA,yc,yl⟩;simp only [VI.val,VI.k,VI.b,VI.n,VI.f,VI.t,VI.A,VI.c,VI.l,Option.isSome_some];have HK:=Ld hk;have HY1:=Ld y1;have HY2:=Ld y2;have HY3:=Ld y3;have HY4:=Ld y4;have HY5:=Ld y5;have HO4:=Ld (hL.out.own.kept hk (fun k hk e => by have:=hL.out.ownge k hk;have:=hL.out.at_.lt;omega) (fun y hy => (hL.out.blk y hy).mono fun k hk e => by have:=hL.out.at_.lt;omega));clear hk hy y1 y2 y3 y4 y5 q0 kx))
        | (at_builtin;go_must (have HO5:=Ld (HO4.out.two (.cells #[.int .u8 yk,.bool yb,.int .i64 yn,.float .f64 yf,.string yt,.slice yA yl.length yc] 54) (.cells #[.int .u8 yk,.bool yb,.int .i64 yn,.float .f64 yf,.string yt,.slice yA yl.length yc] 54));refine wpList_items (B:=w.heap.size + 2) (l:=acc) (ys:=[(VI.mk yk yb yn yf yt yA yc yl)]) rfl (.tmp 131) (.tmp 133) rfl HO5.out rfl rfl (rd_items (w2.alloc (.cells #[.int .u8 yk,.bool yb,.int .i64 yn,.float .f64 yf,.string yt,.slice yA yl.length yc] 54)) #[.int .u8 yk,.bool yb,.int .i64 yn,.float .f64 yf,.string yt,.slice yA yl.length yc] [(VI.mk yk yb yn yf yt yA yc yl)] rfl (g:=w2.heap.size + 1) (by simp) rfl) rfl (by intro y hy;obtain rfl : y = (VI.mk yk yb yn yf yt yA yc yl):=(by simpa using hy);exact HY2.out.grow (two_below w2 _ _)) (by intro y hy;obtain rfl : y = (VI.mk yk yb yn yf yt yA yc yl):=(by simpa using hy);exact HY3.out.mono fun k hk e => by have:=hL.out.ownge k e;omega) (by have:=hL.out.cnt;have:=hL.out.hm;omega) (Nat.le_trans hL.out.base (Nat.le_trans HK.out.size (two_below w2 _ _).size)) ?_;intro v2 w3 hO2 hK2 _;have HO2:=Ld hO2;have HK2:=Ld hK2;clear hO2 hK2)))
       have HCT:=Ld ((par_count F).1 _ _ _ _ HPX.out)
       have HNEW:=Ld (LstAt.put hL.out ((w2.alloc (.cells #[.int .u8 yk,.bool yb,.int .i64 yn,.float .f64 yf,.string yt,.slice yA yl.length yc] 54)).alloc (.cells #[.int .u8 yk,.bool yb,.int .i64 yn,.float .f64 yf,.string yt,.slice yA yl.length yc] 54)) ((HK.out.alloc _).alloc _) (HY4.out.two _ _) HY3.out HO2.out HK2.out ⟨HCT.out.1,HY5.out⟩ HCT.out.2 HF1.out HF2.out HF3.out (by rw [HPC.out,HPX.out,HY1.out]))
       refine ⟨⟨_,_,_,HNEW⟩,?_⟩
       rw [hlenT.out,HNEW.out.src.len]
       exact HCT.out.2
end
section
open Go.RowKit
set_option maxHeartbeats 1000000
set_option maxRecDepth 100000
theorem item_c [Inhabited Thr] (w0 : World) (g b : Nat) (hbw : b < w0.heap.size) : ∀ (s f d m : Nat) (bs : List UInt8) (w : World),f ≤ s → 2 * bs.length + 1 ≤ f → d ≤ 8 → m ≤ 64 → Src w0 g b bs m w → Hid (bs.length ≤ 4096) →
 Calls Tryz.prog 101 #[.pointer (some ⟨g,0,none⟩),.int .i64 d] w (ItemEnd w0 g b f d m bs w):=by
 intro s
 induction s with
 | zero => intro f d m bs w hs hf;omega
 | succ s ih =>
 intro f d m bs w hs hf hd hm hS hb
 obtain ⟨f,rfl⟩ : ∃ f',f = f' + 1:=⟨f - 1,by omega⟩
 have HIH:=Ld ih
 have HS:=Ld hS
 have hg:=hS.lt
 clear ih hS
 cases bs with
 | nil =>
   have HP:=Ld (parI_nil (f + 1) d m)
   go_enter Tryz.func101,Tryz.ntmps101
   have HG0:=Ld (fun o1 o2 => gulp_k w0 g b m 1 [] _ (HS.out.two o1 o2))
   go_wp2_with (go_at_call 125;go_must (refine (HG0.out _ _).mono ?_;rintro e w1 he;obtain ⟨rfl,rfl⟩:=he.short (by decide);clear he))
   exact bodyPost_ret (results_ct rfl _ _ w.heap.size 54 _ (0,0) _ rfl ((((Below.refl _ _).alloc (Nat.le_refl _) _).block _ (by simp)).trans (heap_alloc_new w _)) Tryz.underlying54 rfl (by kernel_rfl)) rfl (itemEnd_none HP.out (((Kept.refl _ w).alloc _).alloc _) (Y:=VI.zero) rfl)
 | cons t r =>
   have HG0:=Ld (fun o1 o2 => gulp_k w0 g b m 1 (t :: r) _ (HS.out.two o1 o2))
   by_cases h64 : m = 64
   ·subst h64
    have HP:=Ld (parI_64 (f + 1) d (t :: r))
    go_enter Tryz.func101,Tryz.ntmps101
    go_wp2_with (first
     | (go_at_call 125;go_must (refine (HG0.out _ _).mono ?_;rintro e w1 he;obtain ⟨o,c,rfl,h1,h2,h3,h4⟩:=he.full (by simp);have HA:=Ld (ItAt.start hg h4);obtain ⟨q1,f1⟩:=h3.items;clear he h1 h3 h4))
     | (refine wpList_load_row rfl 54 (.tmp 6) rfl (w.heap.size + 1) rfl 54 #[.int .u8 0,.bool false,.int .i64 0,.float .f64 0,.string ⟨#[]⟩,.slice none 0 0] (0,0) _ HA.out.r6 Tryz.underlying54 rfl (by kernel_rfl) ?_)
     | (refine wpList_store_row rfl 54 (.tmp 4) (.tmp 36) rfl w.heap.size #[.int .u8 0,.bool false,.int .i64 0,.float .f64 0,.string ⟨#[]⟩,.slice none 0 0] rfl rfl 54 _ HA.out.r4 (by kernel_rfl) rfl (one6 _ _ _ _ _ _ _ _) ?_))
    exact bodyPost_ret (results_ct rfl _ _ w.heap.size 54 _ (0,0) _ rfl (setRow_block _ _ _ _ _ _ HA.out.r4) Tryz.underlying54 rfl (by kernel_rfl)) rfl (item_fin HA.out VI.zero _ (congrArg Option.isSome HP.out).symm (fun p hp => by rw [HP.out] at hp;cases hp) _ rfl)
   have hm64 : ((m : Int) == 64) = false:=by rw [beq_eq_false_iff_ne];omega
   have hm1 : m + 1 ≤ 64:=by omega
   have e64 : ¬ m = 64:=h64
   have HPI:=Ld (show parI (f + 1) d m (t :: r) = if t = 1 then some (.mk 1 false 0 0 ⟨#[]⟩ [],r,m + 1)
    else if t = 2 ∨ t = 3 then some (.mk 2 (t == 3) 0 0 ⟨#[]⟩ [],r,m + 1)
    else if 12 ≤ t.toNat ∧ t.toNat ≤ 28 then (parW ((t.toNat : Int) - 20) r).map fun p => (.mk 3 false p.1 0 ⟨#[]⟩ [],p.2,m + 1)
    else if t = 32 then (parF r).map fun p => (.mk 4 false 0 p.1 ⟨#[]⟩ [],p.2,m + 1)
    else if t = 36 then (parT r).map fun p => (.mk 5 false 0 0 ⟨p.1.toArray⟩ [],p.2,m + 1)
    else if t = 40 ∧ d < 8 then
     match parL f (d + 1) (m + 1) r with
     | some (l,_ :: r,m) => some (.mk 6 false 0 0 ⟨#[]⟩ l,r,m)
     | _ => none
    else none by rw [parI];exact if_neg h64)
   clear h64 e64
   by_cases h1 : t = 1
   ·subst h1
    have HP:=Ld (show parI (f + 1) d m (1 :: r) = some (.mk 1 false 0 0 ⟨#[]⟩ [],r,m + 1) by rw [HPI.out];rfl)
    go_enter Tryz.func101,Tryz.ntmps101
    go_wp2_with (first
     | (go_at_call 125;go_must (refine (HG0.out _ _).mono ?_;rintro e w1 he;obtain ⟨o,c,rfl,h1,h2,h3,h4⟩:=he.full (by simp);have HA:=Ld (ItAt.start hg h4);have k0:=gulped (h1.below (h3.bel.mono h3.hg)) h3 hbw;obtain ⟨q1,f1⟩:=h3.items;have HA2:=Ld (fun v => HA.out.count (v:=v) h3);have H3:=Ld (h3.count (m + 1) ((m : Int) + 1) (by omega));clear he h1 h3 h4))
     | (refine wpList_store_row rfl 54 (.tmp 4) (.tmp 50) rfl w.heap.size #[.int .u8 1,.bool false,.int .i64 0,.float .f64 0,.string ⟨#[]⟩,.slice none 0 0] rfl rfl 54 _ (HA2.out _).r4 (by kernel_rfl) rfl (one6 _ _ _ _ _ _ _ _) ?_))
    exact bodyPost_ret (results_ct rfl _ _ w.heap.size 54 _ (0,0) _ rfl (setRow_block _ _ _ _ _ _ (HA2.out _).r4) Tryz.underlying54 rfl (by kernel_rfl)) rfl (item_fin (HA2.out _) (.mk 1 false 0 0 ⟨#[]⟩ none 0 []) _ (congrArg Option.isSome HP.out).symm (fun p hp => by rw [HP.out] at hp;cases hp;exact ⟨rfl,RdV.plain _ _ _ _ _ _ (by decide) (by decide) (by decide) (by decide),BlkV.plain _ _ _ _ _ _,H3.out,hm1⟩) _ rfl)
   by_cases h2 : t = 2
   ·subst h2
    have HP:=Ld (show parI (f + 1) d m (2 :: r) = some (.mk 2 false 0 0 ⟨#[]⟩ [],r,m + 1) by rw [HPI.out];rfl)
    go_enter Tryz.func101,Tryz.ntmps101
    go_wp2_with (first
     | (go_at_call 125;go_must (refine (HG0.out _ _).mono ?_;rintro e w1 he;obtain ⟨o,c,rfl,h1,h2,h3,h4⟩:=he.full (by simp);have HA:=Ld (ItAt.start hg h4);have k0:=gulped (h1.below (h3.bel.mono h3.hg)) h3 hbw;obtain ⟨q1,f1⟩:=h3.items;have HA2:=Ld (fun v => HA.out.count (v:=v) h3);have H3:=Ld (h3.count (m + 1) ((m : Int) + 1) (by omega));clear he h1 h3 h4))
     | (refine wpList_store_row rfl 54 (.tmp 4) (.tmp 58) rfl w.heap.size #[.int .u8 2,.bool false,.int .i64 0,.float .f64 0,.string ⟨#[]⟩,.slice none 0 0] rfl rfl 54 _ (HA2.out _).r4 (by kernel_rfl) rfl (one6 _ _ _ _ _ _ _ _) ?_))
    exact bodyPost_ret (results_ct rfl _ _ w.heap.size 54 _ (0,0) _ rfl (setRow_block _ _ _ _ _ _ (HA2.out _).r4) Tryz.underlying54 rfl (by kernel_rfl)) rfl (item_fin (HA2.out _) (.mk 2 false 0 0 ⟨#[]⟩ none 0 []) _ (congrArg Option.isSome HP.out).symm (fun p hp => by rw [HP.out] at hp;cases hp;exact ⟨rfl,RdV.plain _ _ _ _ _ _ (by decide) (by decide) (by decide) (by decide),BlkV.plain _ _ _ _ _ _,H3.out,hm1⟩) _ rfl)
   by_cases h3 : t = 3
   ·subst h3
    have HP:=Ld (show parI (f + 1) d m (3 :: r) = some (.mk 2 true 0 0 ⟨#[]⟩ [],r,m + 1) by rw [HPI.out];rfl)
    go_enter Tryz.func101,Tryz.ntmps101
    go_wp2_with (first
     | (go_at_call 125;go_must (refine (HG0.out _ _).mono ?_;rintro e w1 he;obtain ⟨o,c,rfl,h1,h2,h3,h4⟩:=he.full (by simp);have HA:=Ld (ItAt.start hg h4);have k0:=gulped (h1.below (h3.bel.mono h3.hg)) h3 hbw;obtain ⟨q1,f1⟩:=h3.items;have HA2:=Ld (fun v => HA.out.count (v:=v) h3);have H3:=Ld (h3.count (m + 1) ((m : Int) + 1) (by omega));clear he h1 h3 h4))
     | (refine wpList_store_row rfl 54 (.tmp 4) (.tmp 58) rfl w.heap.size #[.int .u8 2,.bool true,.int .i64 0,.float .f64 0,.string ⟨#[]⟩,.slice none 0 0] rfl rfl 54 _ (HA2.out _).r4 (by kernel_rfl) rfl (one6 _ _ _ _ _ _ _ _) ?_))
    exact bodyPost_ret (results_ct rfl _ _ w.heap.size 54 _ (0,0) _ rfl (setRow_block _ _ _ _ _ _ (HA2.out _).r4) Tryz.underlying54 rfl (by kernel_rfl)) rfl (item_fin (HA2.out _) (.mk 2 true 0 0 ⟨#[]⟩ none 0 []) _ (congrArg Option.isSome HP.out).symm (fun p hp => by rw [HP.out] at hp;cases hp;exact ⟨rfl,RdV.plain _ _ _ _ _ _ (by decide) (by decide) (by decide) (by decide),BlkV.plain _ _ _ _ _ _,H3.out,hm1⟩) _ rfl)
   by_cases hr : 12 ≤ t.toNat ∧ t.toNat ≤ 28
   ·have HP:=Ld (show parI (f + 1) d m (t :: r) = (parW ((t.toNat : Int) - 20) r).map fun p => (.mk 3 false p.1 0 ⟨#[]⟩ [],p.2,m + 1) by rw [HPI.out,if_neg h1,if_neg (by intro h;rcases h with h | h;exact h2 h;exact h3 h),if_pos hr])
    obtain ⟨Z,hZ⟩ : ∃ Z : Int,(t.toNat : Int) = Z:=⟨_,rfl⟩
    rw [hZ] at HP
    have hz12 : 12 ≤ Z:=by omega
    have hz28 : Z ≤ 28:=by omega
    have z1 : (Z == 1) = false:=by rw [beq_eq_false_iff_ne];omega
    have z2 : (Z == 2) = false:=by rw [beq_eq_false_iff_ne];omega
    have z3 : (Z == 3) = false:=by rw [beq_eq_false_iff_ne];omega
    have HZ:=Ld hZ
    clear hZ HPI h1 h2 h3 hr
    go_enter Tryz.func101,Tryz.ntmps101
    go_wp2_with (first
     | (go_at_call 125;go_must (refine (HG0.out _ _).mono ?_;rintro e w1 he;obtain ⟨o,c,rfl,h1,h2,h3,h4⟩:=he.full (by simp);have HA:=Ld (ItAt.start hg h4);have k0:=gulped (h1.below (h3.bel.mono h3.hg)) h3 hbw;simp only [HZ.out] at k0;obtain ⟨q1,f1⟩:=h3.items;have HA2:=Ld (fun v => HA.out.count (v:=v) h3);have H3:=Ld (h3.count (m + 1) ((m : Int) + 1) (by omega));clear he h1 h3 h4))
     | (go_at_call 126;go_must (refine (whole_c w0 g b (m + 1) (Z - 20) (by omega) r _ H3.out).mono ?_;rintro e w2 ⟨v,hv,rfl,hk,hw⟩;have HA3:=Ld ((HA2.out _).next hk);have HW:=Ld hw;have HV:=Ld hv;clear hk hw hv k0 q1 f1))
     | (refine wpList_store_row rfl 54 (.tmp 4) (.tmp 75) rfl w.heap.size #[.int .u8 3,.bool false,.int .i64 v,.float .f64 0,.string ⟨#[]⟩,.slice none 0 0] rfl rfl 54 _ HA3.out.r4 (by kernel_rfl) rfl (one6 _ _ _ _ _ _ _ _) ?_))
    exact bodyPost_ret (results_ct rfl _ _ w.heap.size 54 _ (0,0) _ rfl (setRow_block _ _ _ _ _ _ HA3.out.r4) Tryz.underlying54 rfl (by kernel_rfl)) rfl (item_fin HA3.out (.mk 3 false v 0 ⟨#[]⟩ none 0 []) _ (by rw [HP.out,Option.isSome_map]) (fun p hp => by rw [HP.out] at hp;obtain ⟨q,hq,rfl⟩:=Option.map_eq_some_iff.1 hp;obtain ⟨e1,e2⟩:=HW.out q hq;exact ⟨by rw [e1];rfl,RdV.plain _ _ _ _ _ _ (by decide) (by decide) (by decide) HV.out,BlkV.plain _ _ _ _ _ _,e2,hm1⟩) _ rfl)
   have hrn:=hr
   clear hr
   by_cases h32 : t = 32
   ·subst h32
    have HP:=Ld (show parI (f + 1) d m (32 :: r) = (parF r).map fun p => (.mk 4 false 0 p.1 ⟨#[]⟩ [],p.2,m + 1) by rw [HPI.out];rfl)
    clear HPI h1 h2 h3 hrn
    go_enter Tryz.func101,Tryz.ntmps101
    go_wp2_with (first
     | (go_at_call 125;go_must (refine (HG0.out _ _).mono ?_;rintro e w1 he;obtain ⟨o,c,rfl,h1,h2,h3,h4⟩:=he.full (by simp);have HA:=Ld (ItAt.start hg h4);have k0:=gulped (h1.below (h3.bel.mono h3.hg)) h3 hbw;obtain ⟨q1,f1⟩:=h3.items;have HA2:=Ld (fun v => HA.out.count (v:=v) h3);have H3:=Ld (h3.count (m + 1) ((m : Int) + 1) (by omega));clear he h1 h3 h4))
     | (go_at_call 127;go_must (refine (float_c w0 g b (m + 1) r _ H3.out).mono ?_;rintro e w2 ⟨v,hv,rfl,hk,hw⟩;have HA3:=Ld ((HA2.out _).next hk);have HW:=Ld hw;have HV:=Ld hv;clear hk hw hv k0 q1 f1))
     | (refine wpList_store_row rfl 54 (.tmp 4) (.tmp 86) rfl w.heap.size #[.int .u8 4,.bool false,.int .i64 0,.float .f64 v,.string ⟨#[]⟩,.slice none 0 0] rfl rfl 54 _ HA3.out.r4 (by kernel_rfl) rfl (one6 _ _ _ _ _ _ _ _) ?_))
    exact bodyPost_ret (results_ct rfl _ _ w.heap.size 54 _ (0,0) _ rfl (setRow_block _ _ _ _ _ _ HA3.out.r4) Tryz.underlying54 rfl (by kernel_rfl)) rfl (item_fin HA3.out (.mk 4 false 0 v ⟨#[]⟩ none 0 []) _ (by rw [HP.out,Option.isSome_map]) (fun p hp => by rw [HP.out] at hp;obtain ⟨q,hq,rfl⟩:=Option.map_eq_some_iff.1 hp;obtain ⟨e1,e2⟩:=HW.out q hq;exact ⟨by rw [e1];rfl,RdV.plain _ _ _ _ _ _ (by decide) (by decide) HV.out (by decide),BlkV.plain _ _ _ _ _ _,e2,hm1⟩) _ rfl)
   by_cases h36 : t = 36
   ·subst h36
    have HP:=Ld (show parI (f + 1) d m (36 :: r) = (parT r).map fun p => (.mk 5 false 0 0 ⟨p.1.toArray⟩ [],p.2,m + 1) by rw [HPI.out];rfl)
    clear HPI h1 h2 h3 hrn
    go_enter Tryz.func101,Tryz.ntmps101
    go_wp2_with (first
     | (go_at_call 125;go_must (refine (HG0.out _ _).mono ?_;rintro e w1 he;obtain ⟨o,c,rfl,h1,h2,h3,h4⟩:=he.full (by simp);have HA:=Ld (ItAt.start hg h4);have k0:=gulped (h1.below (h3.bel.mono h3.hg)) h3 hbw;obtain ⟨q1,f1⟩:=h3.items;have HA2:=Ld (fun v => HA.out.count (v:=v) h3);have H3:=Ld (h3.count (m + 1) ((m : Int) + 1) (by omega));clear he h1 h3 h4))
     | (go_at_call 128;go_must (refine (text_c w0 g b (m + 1) r _ H3.out (Ld (by have:=hb.out;simp only [List.length_cons] at this;omega))).mono ?_;rintro e w2 ⟨v,hv,rfl,hk,hw⟩;have HA3:=Ld ((HA2.out _).next hk);have HW:=Ld hw;have HV:=Ld hv;clear hk hw hv k0 q1 f1))
     | (refine wpList_store_row rfl 54 (.tmp 4) (.tmp 97) rfl w.heap.size #[.int .u8 5,.bool false,.int .i64 0,.float .f64 0,.string v,.slice none 0 0] rfl rfl 54 _ HA3.out.r4 (by kernel_rfl) rfl (one6 _ _ _ _ _ _ _ _) ?_))
    exact bodyPost_ret (results_ct rfl _ _ w.heap.size 54 _ (0,0) _ rfl (setRow_block _ _ _ _ _ _ HA3.out.r4) Tryz.underlying54 rfl (by kernel_rfl)) rfl (item_fin HA3.out (.mk 5 false 0 0 v none 0 []) _ (by rw [HP.out,Option.isSome_map]) (fun p hp => by rw [HP.out] at hp;obtain ⟨q,hq,rfl⟩:=Option.map_eq_some_iff.1 hp;obtain ⟨e1,e2⟩:=HW.out q hq;exact ⟨by rw [← e1];rfl,RdV.plain _ _ _ _ _ _ (Nat.le_trans HV.out (by decide)) (by decide) (by decide) (by decide),BlkV.plain _ _ _ _ _ _,e2,hm1⟩) _ rfl)
   by_cases h40 : t = 40 ∧ d < 8
   ·obtain ⟨rfl,hd8⟩:=h40
    exact item_list w0 g b hbw s f d m r w (by omega) (by simp only [List.length_cons] at hf;omega) hd8 hm1 hm64 HS.out hb HIH
   have HP:=Ld (show parI (f + 1) d m (t :: r) = none by rw [HPI.out,if_neg h1,if_neg (by intro h;rcases h with h | h;exact h2 h;exact h3 h),if_neg hrn,if_neg h32,if_neg h36,if_neg h40])
   clear HPI
   have z1 : ((t.toNat : Int) == 1) = false:=u8_ne h1
   have z2 : ((t.toNat : Int) == 2) = false:=u8_ne h2
   have z3 : ((t.toNat : Int) == 3) = false:=u8_ne h3
   have z4 : ((t.toNat : Int) == 32) = false:=u8_ne h32
   have z5 : ((t.toNat : Int) == 36) = false:=u8_ne h36
   have HZ5:=Ld (show ¬ ((t.toNat : Int) = 40 ∧ (d : Int) < 8) from fun ⟨e1,e2⟩ => h40 ⟨UInt8.toNat_inj.1 (by rw [show (40 : UInt8).toNat = 40 from rfl];omega),by omega⟩)
   have HRN:=Ld hrn
   clear h1 h2 h3 h32 h36 h40 hrn
   obtain ⟨Z,hZ⟩ : ∃ Z : Int,(t.toNat : Int) = Z:=⟨_,rfl⟩
   rw [hZ] at HZ5 z1 z2 z3 z4 z5
   have hrz : Z < 12 ∨ 28 < Z:=by have:=HRN.out;omega
   have HZ:=Ld hZ
   clear hZ
   rcases hrz with hrz | hrz
   ·have hrz2 : (decide (12 ≤ Z)) = false:=by simpa using hrz
    by_cases h40 : (Z == 40) = true
    ·exfalso;rw [beq_iff_eq] at h40;omega
    ·have h40' : (Z == 40) = false:=by simpa using h40
     clear h40
     go_enter Tryz.func101,Tryz.ntmps101
     go_wp2_with (first
      | (go_at_call 125;go_must (refine (HG0.out _ _).mono ?_;rintro e w1 he;obtain ⟨o,c,rfl,h1,h2,h3,h4⟩:=he.full (by simp);have HA:=Ld (ItAt.start hg h4);have k0:=gulped (h1.below (h3.bel.mono h3.hg)) h3 hbw;simp only [HZ.out] at k0;obtain ⟨q1,f1⟩:=h3.items;have HA2:=Ld (fun v => HA.out.count (v:=v) h3);have H3:=Ld (h3.count (m + 1) ((m : Int) + 1) (by omega));clear he h1 h3 h4))
      | (refine wpList_load_row rfl 54 (.tmp 6) rfl (w.heap.size + 1) rfl 54 #[.int .u8 0,.bool false,.int .i64 0,.float .f64 0,.string ⟨#[]⟩,.slice none 0 0] (0,0) _ (HA2.out _).r6 Tryz.underlying54 rfl (by kernel_rfl) ?_)
      | (refine wpList_store_row rfl 54 (.tmp 4) (.tmp 143) rfl w.heap.size #[.int .u8 0,.bool false,.int .i64 0,.float .f64 0,.string ⟨#[]⟩,.slice none 0 0] rfl rfl 54 _ (HA2.out _).r4 (by kernel_rfl) rfl (one6 _ _ _ _ _ _ _ _) ?_))
     all_goals exact bodyPost_ret (results_ct rfl _ _ w.heap.size 54 _ (0,0) _ rfl (setRow_block _ _ _ _ _ _ (HA2.out _).r4) Tryz.underlying54 rfl (by kernel_rfl)) rfl (item_fin (HA2.out _) (VI.zero) _ (congrArg Option.isSome HP.out).symm (fun p hp => by rw [HP.out] at hp;cases hp) _ rfl)
   ·have hrz2 : (decide (Z ≤ 28)) = false:=by simpa using hrz
    by_cases h40 : (Z == 40) = true
    ·have hd8 : ¬ (d : Int) < 8:=fun h => HZ5.out ⟨by simpa using h40,h⟩
     go_enter Tryz.func101,Tryz.ntmps101
     go_wp2_with (first
      | (go_at_call 125;go_must (refine (HG0.out _ _).mono ?_;rintro e w1 he;obtain ⟨o,c,rfl,h1,h2,h3,h4⟩:=he.full (by simp);have HA:=Ld (ItAt.start hg h4);have k0:=gulped (h1.below (h3.bel.mono h3.hg)) h3 hbw;simp only [HZ.out] at k0;obtain ⟨q1,f1⟩:=h3.items;have HA2:=Ld (fun v => HA.out.count (v:=v) h3);have H3:=Ld (h3.count (m + 1) ((m : Int) + 1) (by omega));clear he h1 h3 h4))
      | (refine wpList_load_row rfl 54 (.tmp 6) rfl (w.heap.size + 1) rfl 54 #[.int .u8 0,.bool false,.int .i64 0,.float .f64 0,.string ⟨#[]⟩,.slice none 0 0] (0,0) _ (HA2.out _).r6 Tryz.underlying54 rfl (by kernel_rfl) ?_)
      | (refine wpList_store_row rfl 54 (.tmp 4) (.tmp 143) rfl w.heap.size #[.int .u8 0,.bool false,.int .i64 0,.float .f64 0,.string ⟨#[]⟩,.slice none 0 0] rfl rfl 54 _ (HA2.out _).r4 (by kernel_rfl) rfl (one6 _ _ _ _ _ _ _ _) ?_))
     all_goals exact bodyPost_ret (results_ct rfl _ _ w.heap.size 54 _ (0,0) _ rfl (setRow_block _ _ _ _ _ _ (HA2.out _).r4) Tryz.underlying54 rfl (by kernel_rfl)) rfl (item_fin (HA2.out _) (VI.zero) _ (congrArg Option.isSome HP.out).symm (fun p hp => by rw [HP.out] at hp;cases hp) _ rfl)
    ·have h40' : (Z == 40) = false:=by simpa using h40
     clear h40
     go_enter Tryz.func101,Tryz.ntmps101
     go_wp2_with (first
      | (go_at_call 125;go_must (refine (HG0.out _ _).mono ?_;rintro e w1 he;obtain ⟨o,c,rfl,h1,h2,h3,h4⟩:=he.full (by simp);have HA:=Ld (ItAt.start hg h4);have k0:=gulped (h1.below (h3.bel.mono h3.hg)) h3 hbw;simp only [HZ.out] at k0;obtain ⟨q1,f1⟩:=h3.items;have HA2:=Ld (fun v => HA.out.count (v:=v) h3);have H3:=Ld (h3.count (m + 1) ((m : Int) + 1) (by omega));clear he h1 h3 h4))
      | (refine wpList_load_row rfl 54 (.tmp 6) rfl (w.heap.size + 1) rfl 54 #[.int .u8 0,.bool false,.int .i64 0,.float .f64 0,.string ⟨#[]⟩,.slice none 0 0] (0,0) _ (HA2.out _).r6 Tryz.underlying54 rfl (by kernel_rfl) ?_)
      | (refine wpList_store_row rfl 54 (.tmp 4) (.tmp 143) rfl w.heap.size #[.int .u8 0,.bool false,.int .i64 0,.float .f64 0,.string ⟨#[]⟩,.slice none 0 0] rfl rfl 54 _ (HA2.out _).r4 (by kernel_rfl) rfl (one6 _ _ _ _ _ _ _ _) ?_))
     all_goals exact bodyPost_ret (results_ct rfl _ _ w.heap.size 54 _ (0,0) _ rfl (setRow_block _ _ _ _ _ _ (HA2.out _).r4) Tryz.underlying54 rfl (by kernel_rfl)) rfl (item_fin (HA2.out _) (VI.zero) _ (congrArg Option.isSome HP.out).symm (fun p hp => by rw [HP.out] at hp;cases hp) _ rfl)
end
section
open Go.RowKit
set_option maxHeartbeats 1000000
set_option maxRecDepth 100000
theorem parTop_nil (F m : Nat) : parTop (F + 1) m [] = some []:=by rw [parTop]
theorem parTop_cons (F m : Nat) (t : UInt8) (r : List UInt8) : parTop (F + 1) m (t :: r) = match parI (2 * (t :: r).length + 1) 0 m (t :: r) with
 | none => none
 | some (x,r,m) => (parTop F m r).map (x :: ·):=by
 rw [parTop]
 ·rfl
 ·intro h;cases h
structure TopAt [Inhabited Thr] (w0 : World) (g b : Nat) (bs : List UInt8) (v : Value) (acc : List VI) (rest : List UInt8) (m : Nat) (W : World) : Prop where
 own : OwnI W (g + 1) v acc
 src : Src w0 g b rest m W
 blk : ∀ x ∈ acc,BlkV (fun k => g + 1 ≤ k) x
 hm : m ≤ 64
 cnt : acc.length ≤ m
 len : rest.length ≤ 4096
 par : ∃ F,rest.length + 1 ≤ F ∧ parTop (bs.length + 1) 0 bs = (parTop F m rest).map fun p => VI.dataL acc ++ p
section
variable {w0 W W' hW : World} {g b m m2 : Nat} {bs rest rest' : List UInt8} {v v' : Value} {acc : List VI} {Y : VI}
theorem TopAt.ownge [Inhabited Thr] (h : TopAt w0 g b bs v acc rest m W) : ∀ k,v.ownBlock = some k → g + 1 ≤ k ∧ k < W.heap.size:=h.own.own.lt
theorem TopAt.put [Inhabited Thr] (h : TopAt w0 g b bs v acc rest m W) (hS : Src w0 g b rest' m2 hW)
 (hY : BlkV (fun k => W.heap.size ≤ k) Y) (hw : OwnI W' (g + 1) v' (acc ++ [Y])) (hk : Kept (fun k => v.ownBlock = some k) hW W') (hm2 : m < m2 ∧ m2 ≤ 64) (hlen : rest'.length < rest.length)
 {F : Nat} (hF1 : rest.length + 1 ≤ F + 1) (hF3 : parTop (bs.length + 1) 0 bs = (parTop (F + 1) m rest).map fun p => VI.dataL acc ++ p) (hp : parTop (F + 1) m rest = (parTop F m2 rest').map (Y.data :: ·)) : TopAt w0 g b bs v' (acc ++ [Y]) rest' m2 W':=by
 have hge:=h.ownge
 have hlt:=h.src.lt
 refine ⟨hw,hS.kept hk (fun k hkg e => by have:=hge k e;omega),?_,hm2.2,?_,by have:=h.len;omega,⟨F,by omega,?_⟩⟩
 ·intro x hx
  rcases List.mem_append.1 hx with hx | hx
  ·exact h.blk x hx
  ·obtain rfl : x = Y:=by simpa using hx
   exact hY.mono fun k hk => by omega
 ·have:=h.cnt
  simp only [List.length_append,List.length_cons,List.length_nil]
  omega
 ·rw [hF3,hp,map_map']
  congr 1
  funext p
  simp [dataL_eq]
end
theorem TopAt.start [Inhabited Thr] {w0 W : World} {g b : Nat} {bs : List UInt8} (hS : Src w0 g b bs 0 W) (hlen : bs.length ≤ 4096) : TopAt w0 g b bs (.slice none 0 0) [] bs 0 W :=
 ⟨.nil _ _,hS,by simp,by omega,by simp,hlen,⟨bs.length + 1,Nat.le_refl _,by cases parTop (bs.length + 1) 0 bs <;> simp [VI.dataL]⟩⟩
def UnpEnd [Inhabited Thr] (bs : List UInt8) (w : World) (e : Ending) (w' : World) : Prop :=
 Below w.heap.size w w' ∧ match unpB bs with
 | none => e = .returned (.tuple #[.slice none 0 0,.int .i64 (unpErr bs)])
 | some l => ∃ L A c,e = .returned (.tuple #[.slice A L.length c,.int .i64 0]) ∧ VI.dataL L = l ∧ L.length ≤ 64 ∧ OwnI w' w.heap.size (.slice A L.length c) L ∧ RdI w' A c L ∧ ∀ x ∈ L,BlkV (fun k => w.heap.size ≤ k) x
theorem Unp_src (w : World) (s : ByteArray) (cap : Nat) (C : Array Value) (hsz : s.data.toList.length = s.size) (hcap : s.size ≤ cap) (hC : ∀ j (hj : j < s.data.size),C[j]? = some (.int .u8 (s.data[j].toNat : Int))) :
 Src (w.alloc (.cells C 5 (C.size,C.size + 1))) (w.heap.size + 1) w.heap.size s.data.toList 0 (((w.alloc (.cells C 5 (C.size,C.size + 1))).alloc (.cells #[.slice (some ⟨w.heap.size,0,none⟩) s.size cap,.int .i64 0] 140)).drew):=by
 have hs : (w.alloc (.cells C 5 (C.size,C.size + 1))).heap.size = w.heap.size + 1:=by simp
 refine ⟨⟨0,cap,?_,by omega,?_⟩,?_,by omega⟩
 ·intro j c hc
  have hj : j < s.data.size:=by have:=(List.getElem?_eq_some_iff.1 hc).1;simpa using this
  rw [Nat.zero_add,row_cell (heap_alloc_new w _) j,hC j hj]
  rw [Array.getElem?_toList,Array.getElem?_eq_getElem hj] at hc
  cases hc
  rfl
 ·rw [hsz]
  show ((w.alloc (.cells C 5 (C.size,C.size + 1))).alloc _).heap[w.heap.size + 1]? = _
  rw [← hs]
  exact heap_alloc_new _ _
 ·exact ((Below.refl _ _).alloc (by omega) _).drew
theorem Unpack_c [Inhabited Thr] (s : ByteArray) (w : World) : Calls Tryz.prog 65 #[.string s] w (UnpEnd s.data.toList w):=by
 have hbs:=fun (w : World) (s : ByteArray) => run_bytes_of_string (P:=Tryz.prog) w 9 35 5 s Tryz.underlying9 Tryz.underlying35 Tryz.underlying5
 have hsz : s.data.toList.length = s.size:=by rw [Array.length_toList];rfl
 by_cases hbig : 4096 < s.size
 ·have HU:=Ld (show unpB s.data.toList = none by rw [unpB,if_pos (by omega)])
  have HE:=Ld (show unpErr s.data.toList = 4 by rw [unpErr,if_pos (by omega)])
  clear hsz
  go_enter Tryz.func65,Tryz.ntmps65
  go_wp2
  go_ret2
  exact ⟨.refl _ _,by rw [HU.out];exact ret_eq (by rw [HE.out];rfl)⟩
 ·have hsmall : ¬ 4096 < s.size:=hbig
  have HSZ:=Ld hsz
  have HUB:=Ld (show unpB s.data.toList = parTop (s.data.toList.length + 1) 0 s.data.toList by rw [unpB,if_neg (by omega)])
  have HUE:=Ld (show unpErr s.data.toList = if (unpB s.data.toList).isSome then 0 else 33 by rw [unpErr,if_neg (by omega)])
  clear hbig hsz
  go_enter Tryz.func65,Tryz.ntmps65
  go_wp2
  have HCAP:=Ld (grownCap_ge w s.size 0 5)
  obtain ⟨cap,hcap⟩ : ∃ cap,grownCap w s.size 0 5 = cap:=⟨_,rfl⟩
  rw [hcap] at HCAP ⊢
  have HCEL:=Ld (fun j (hj : j < s.data.size) => bytesRow_at s cap j hj)
  obtain ⟨C,hC⟩ : ∃ C,bytesRow s cap = C:=⟨_,rfl⟩
  rw [hC] at HCEL ⊢
  have HT0:=Ld (TopAt.start (Unp_src w s cap C HSZ.out HCAP.out HCEL.out) (by rw [HSZ.out];omega))
  obtain ⟨w0,hw0⟩ : ∃ w0,w.alloc (.cells C 5 (C.size,C.size + 1)) = w0:=⟨_,rfl⟩
  have hb0 : w.heap.size < w0.heap.size:=by rw [← hw0];simp
  have HBW:=Ld (show Below w.heap.size w w0 by rw [← hw0];exact (Below.refl _ _).alloc (Nat.le_refl _) _)
  rw [hw0] at HT0 ⊢
  obtain ⟨g,hgg⟩ : ∃ g,w.heap.size + 1 = g:=⟨_,rfl⟩
  rw [hgg] at HT0 ⊢
  have HGG:=Ld hgg
  clear hC hcap hbs hw0 hgg
  go_loopw [5] (fun v wr => ∃ (acc : List VI) (rest : List UInt8) (m : Nat),Hid (TopAt w0 g w.heap.size s.data.toList v acc rest m wr)) (fun _ wr => srcLen wr g)
  case atStart => exact ⟨_,_,_,HT0⟩
  case round =>
   obtain ⟨acc,rest,m,hL⟩:=hrel
   have hb64 : acc.length * 64 ≤ 140737488355328:=by have:=hL.out.cnt;have:=hL.out.hm;omega
   obtain ⟨A,cA,hv,hRI⟩:=hL.out.own.rdi hb64
   subst hv
   have HRI:=Ld hRI
   have HOB:=Ld (own_block hL.out.own.own)
   obtain ⟨F,hF1,hF3⟩:=hL.out.par
   obtain ⟨F,rfl⟩ : ∃ F',F = F' + 1:=⟨F - 1,by omega⟩
   have HF1:=Ld hF1
   have HF3:=Ld hF3
   obtain ⟨o2,c2,hB2,hc2,hbox⟩:=hL.out.src.ex
   obtain ⟨⟨q0,_⟩,_⟩:=cells2 hbox
   clear hRI hF1 hF3 hbox hB2 hb64
   cases rest with
   | nil =>
     have HP:=Ld (show unpB s.data.toList = some (VI.dataL acc) by rw [HUB.out,HF3.out,parTop_nil];simp)
     go_wp2
     go_ret2
     refine ⟨HBW.out.trans (hL.out.src.bel.mono (by have:=HGG.out;omega)),?_⟩
     rw [HP.out]
     exact ⟨acc,A,cA,rfl,rfl,Nat.le_trans hL.out.cnt hL.out.hm,⟨ownsRow_mono' hL.out.own.own (by have:=HGG.out;omega),hL.out.own.rd,hL.out.own.ne⟩,HRI.out,fun x hx => (hL.out.blk x hx).mono fun k hk => by have:=HGG.out;omega⟩
   | cons x r' =>
     have hlenT:=Ld hL.out.src.len
     have HREC:=Ld (item_c w0 g w.heap.size hb0 (2 * (x :: r').length + 1) (2 * (x :: r').length + 1) 0 m (x :: r') wr (Nat.le_refl _) (Nat.le_refl _) (by decide) hL.out.hm hL.out.src (Ld hL.out.len))
     have HPC:=Ld (fun F m => parTop_cons F m x r')
     cases hpx : parI (2 * (x :: r').length + 1) 0 m (x :: r') with
     | none =>
       have HP:=Ld (show unpB s.data.toList = none by rw [HUB.out,HF3.out,HPC.out,hpx];rfl)
       have HPX:=Ld hpx
       clear hpx
       go_wp2_with (first
        | (go_at_call 101;go_must (refine HREC.out.mono ?_;rintro e w2 ⟨Y,rfl,hk,hy⟩;rw [HPX.out];rcases Y with ⟨yk,yb,yn,yf,yt,yA,yc,yl⟩;simp only [VI.val,VI.k,VI.b,VI.n,VI.f,VI.t,VI.A,VI.c,VI.l,Option.isSome_none];have HK:=Ld hk;clear hk hy q0)))
       go_ret2
       refine ⟨HBW.out.trans ((hL.out.src.bel.mono (by have:=HGG.out;omega)).trans (((HK.out.alloc _).below (by have:=hL.out.src.lt;have:=HGG.out;omega) (fun k hk e => by have:=HGG.out;omega)))),?_⟩
       rw [HP.out]
       exact ret_eq (by rw [HUE.out,HP.out];rfl)
     | some p =>
       have HPX:=Ld hpx
       clear hpx
       go_wp2_with (first
        | (go_at_call 101;go_must (refine HREC.out.mono ?_;rintro e w2 ⟨Y,rfl,hk,hy⟩;obtain ⟨y1,y2,y3,y4,y5⟩:=hy p HPX.out;rw [HPX.out];rcases Y with ⟨yk,yb,yn,yf,yt,yA,yc,yl⟩;simp only [VI.val,VI.k,VI.b,VI.n,VI.f,VI.t,VI.A,VI.c,VI.l,Option.isSome_some];have HK:=Ld hk;have HY1:=Ld y1;have HY2:=Ld y2;have HY3:=Ld y3;have HY4:=Ld y4;have HY5:=Ld y5;have HO4:=Ld (hL.out.own.kept hk (fun k hk e => by have:=hL.out.ownge k hk;omega) (fun y hy => (hL.out.blk y hy).mono fun k hk e => by omega));clear hk hy y1 y2 y3 y4 y5 q0))
        | (at_builtin;go_must (have HO5:=Ld (HO4.out.two (.cells #[.int .u8 yk,.bool yb,.int .i64 yn,.float .f64 yf,.string yt,.slice yA yl.length yc] 54) (.cells #[.int .u8 yk,.bool yb,.int .i64 yn,.float .f64 yf,.string yt,.slice yA yl.length yc] 54));refine wpList_items (B:=g + 1) (l:=acc) (ys:=[(VI.mk yk yb yn yf yt yA yc yl)]) rfl (.tmp 24) (.tmp 26) rfl HO5.out rfl rfl (rd_items (w2.alloc (.cells #[.int .u8 yk,.bool yb,.int .i64 yn,.float .f64 yf,.string yt,.slice yA yl.length yc] 54)) #[.int .u8 yk,.bool yb,.int .i64 yn,.float .f64 yf,.string yt,.slice yA yl.length yc] [(VI.mk yk yb yn yf yt yA yc yl)] rfl (g:=w2.heap.size + 1) (by simp) rfl) rfl (by intro y hy;obtain rfl : y = (VI.mk yk yb yn yf yt yA yc yl):=(by simpa using hy);exact HY2.out.grow (two_below w2 _ _)) (by intro y hy;obtain rfl : y = (VI.mk yk yb yn yf yt yA yc yl):=(by simpa using hy);exact HY3.out.mono fun k hk e => by have:=hL.out.ownge k e;omega) (by have:=hL.out.cnt;have:=hL.out.hm;omega) (Nat.le_trans hL.out.src.lt (Nat.le_trans HK.out.size (two_below w2 _ _).size)) ?_;intro v2 w3 hO2 hK2 _;have HO2:=Ld hO2;have HK2:=Ld hK2;clear hO2 hK2)))
       have HCT:=Ld ((par_count _).1 _ _ _ _ HPX.out)
       have HNEW:=Ld (TopAt.put hL.out (HY4.out.two (.cells #[.int .u8 yk,.bool yb,.int .i64 yn,.float .f64 yf,.string yt,.slice yA yl.length yc] 54) (.cells #[.int .u8 yk,.bool yb,.int .i64 yn,.float .f64 yf,.string yt,.slice yA yl.length yc] 54)) HY3.out HO2.out HK2.out ⟨HCT.out.1,HY5.out⟩ HCT.out.2 HF1.out HF3.out (by rw [HPC.out,HPX.out,HY1.out]))
       refine ⟨⟨_,_,_,HNEW⟩,?_⟩
       rw [hlenT.out,HNEW.out.src.len]
       exact HCT.out.2
end
section
open Go.RowKit
set_option maxHeartbeats 2000000
set_option maxRecDepth 100000
attribute [local go_sem] grow_cell grow_frozen grow_size
abbrev vF (pg wd : Int) : Value:=.agg #[.int .i64 pg,.int .i64 wd]
theorem maxKey_c (pg wd : Int) (w : World) (h0 : 0 ≤ pg) (h1 : pg ≤ 8192) :
 Calls Tryz.prog 50 #[vF pg wd] w fun e w' => e = .returned (.int .i64 (pg / 16)) ∧ Below w.heap.size w w':=by
 go_enter Tryz.func50,Tryz.ntmps50
 go_wp2
 go_ret
 exact ⟨rfl,(Below.refl _ _).alloc (Nat.le_refl _) _⟩
theorem maxVal_c (pg wd : Int) (w : World) (h0 : 0 ≤ pg) (h1 : pg ≤ 8192) :
 Calls Tryz.prog 51 #[vF pg wd] w fun e w' => e = .returned (.int .i64 (pg / 8)) ∧ Below w.heap.size w w':=by
 go_enter Tryz.func51,Tryz.ntmps51
 go_wp2
 go_ret
 exact ⟨rfl,(Below.refl _ _).alloc (Nat.le_refl _) _⟩
def right (pg wd : Int) : Bool:=decide ((pg = 1024 ∨ pg = 2048 ∨ pg = 4096 ∨ pg = 8192) ∧ 1 ≤ wd ∧ wd ≤ 32)
theorem index_c (A : Option Addr) (c : Nat) (l : List Int) (x : Int) (w : World) (hR : Rd w 1 A l.length (l.map (.int .i64))) (hl : l.length ≤ 65536) :
 Calls Tryz.prog 120 #[.slice A l.length c,.int .i64 x] w fun e w' => (∃ r : Int,e = .returned (.int .i64 r) ∧ (0 ≤ r ↔ x ∈ l)) ∧ w = w':=by
 go_enter Tryz.func120,Tryz.ntmps120
 go_wp2
 go_loop [8] (fun i => ∃ k : Nat,k ≤ l.length ∧ i = .int .i64 k ∧ ∀ j (h : j < k) (h' : j < l.length),l[j] ≠ x) (fun i => l.length - (intOf i).toNat)
 case atStart => exact ⟨0,Nat.zero_le _,rfl,fun j h => absurd h (by omega)⟩
 case round =>
  obtain ⟨k,hk,rfl,hno⟩:=hrel
  have HN:=Ld hno
  clear hno
  by_cases hlt : k < l.length
  ·obtain ⟨ab,ao,rfl,hc⟩:=hR.2 (by omega)
   have hcell : w.cell? ⟨ab,ao + k,none⟩ = some (.int .i64 l[k]):=hc k _ (by simp [hlt])
   have hs:=hR.1
   clear hc hs hR
   by_cases hx : x = l[k]
   ·have hx1 : (x == l[k]) = true:=by simpa using hx
    have HX:=Ld hx
    clear hx
    go_wp2
    go_ret
    exact ⟨⟨(k : Int),rfl,by have:=HX.out;simp [this]⟩,rfl⟩
   ·have hx1 : (x == l[k]) = false:=by simpa using hx
    have HX:=Ld hx
    clear hx
    go_wp2
    go_round
    case rel => exact ⟨k + 1,by omega,by go_num,fun j h h' => by
     by_cases e : j = k
     ·subst e;exact fun e' => HX.out e'.symm
     ·exact HN.out j (by omega) h'⟩
    case measure => simp [intOf];omega
  ·go_wp2
   go_ret
   exact ⟨⟨-1,rfl,by
    constructor
    ·omega
    ·intro hm
     obtain ⟨j,hj,e⟩:=List.getElem_of_mem hm
     exact absurd e (HN.out j (by omega) hj)⟩,rfl⟩
theorem contains_c (A : Option Addr) (c : Nat) (l : List Int) (x : Int) (w : World) (hR : Rd w 1 A l.length (l.map (.int .i64))) (hl : l.length ≤ 65536) :
 Calls Tryz.prog 89 #[.slice A l.length c,.int .i64 x] w fun e w' => e = .returned (.bool (decide (x ∈ l))) ∧ w = w':=by
 go_enter Tryz.func89,Tryz.ntmps89
 go_wp2_with (go_at_call 120;refine (index_c A c l x w hR hl).mono ?_;rintro e w' ⟨⟨r,rfl,hr⟩,rfl⟩;have HR:=Ld hr;clear hr)
 go_ret
 exact ⟨ret_eq (show Value.bool (decide (0 ≤ r)) = _ by simp [HR.out]),rfl⟩
theorem right_c (pg wd : Int) (w : World) :
 Calls Tryz.prog 56 #[vF pg wd] w fun e w' => e = .returned (.bool (right pg wd)) ∧ Below w.heap.size w w':=by
 have hR : ∀ (W : World) (g : Nat) (_ : g = W.heap.size),Rd (W.alloc (.cells #[.int .i64 1024,.int .i64 2048,.int .i64 4096,.int .i64 8192] 3)) 1 (some ⟨g,0,none⟩) [(1024 : Int),2048,4096,8192].length ([(1024 : Int),2048,4096,8192].map (.int .i64)):=by
  rintro W g rfl
  refine ⟨rfl,fun _ => ⟨_,_,rfl,fun j u hu => ?_⟩⟩
  rw [Nat.zero_add,cell_of_row _ W.heap.size j _ _ _ (heap_alloc_new W _)]
  simpa using hu
 by_cases hm : pg ∈ [(1024 : Int),2048,4096,8192]
 ·have hm1 : decide (pg ∈ [(1024 : Int),2048,4096,8192]) = true:=decide_eq_true hm
  have h3 : (1 ≤ wd ∧ wd ≤ 32) ∨ (1 ≤ wd ∧ ¬ wd ≤ 32) ∨ (¬ 1 ≤ wd):=by omega
  rcases h3 with ⟨h1,h2⟩ | ⟨h1,h2⟩ | h1
  all_goals
   have HM:=Ld hm
   have HM1:=Ld hm1
   clear hm hm1
   go_enter Tryz.func56,Tryz.ntmps56
   go_wp2_with (go_at_call 89;refine (contains_c _ _ [1024,2048,4096,8192] pg _ (hR _ _ (by simp)) (by decide)).mono ?_;rw [HM1.out];rintro e w' ⟨rfl,rfl⟩)
   go_ret
   exact ⟨ret_eq (by have:=HM.out;simp only [List.mem_cons,List.not_mem_nil,or_false] at this;simp [right,this];omega),((Below.refl _ _).alloc (Nat.le_refl _) _).alloc (by simp) _⟩
 ·have hm1 : decide (pg ∈ [(1024 : Int),2048,4096,8192]) = false:=decide_eq_false hm
  have HM:=Ld hm
  have HM1:=Ld hm1
  clear hm hm1
  go_enter Tryz.func56,Tryz.ntmps56
  go_wp2_with (go_at_call 89;refine (contains_c _ _ [1024,2048,4096,8192] pg _ (hR _ _ (by simp)) (by decide)).mono ?_;rw [HM1.out];rintro e w' ⟨rfl,rfl⟩)
  go_ret
  exact ⟨ret_eq (by have:=HM.out;simp only [List.mem_cons,List.not_mem_nil,or_false] at this;simp [right,this]),((Below.refl _ _).alloc (Nat.le_refl _) _).alloc (by simp) _⟩
theorem refRight_c (pg wd : Int) (w : World) :
 Calls Tryz.prog 61 #[vF pg wd] w fun e w' => e = .returned (.bool (right pg wd)) ∧ Below w.heap.size w w':=by
 have hw : (1 ≤ wd ∧ wd ≤ 32) ∨ (1 ≤ wd ∧ ¬ wd ≤ 32) ∨ (¬ 1 ≤ wd):=by omega
 by_cases hp : pg = 1024 ∨ pg = 2048 ∨ pg = 4096 ∨ pg = 8192
 ·rcases hp with rfl | rfl | rfl | rfl
  all_goals
   rcases hw with ⟨a1,a2⟩ | ⟨a1,a2⟩ | a1
   all_goals
    go_enter Tryz.func61,Tryz.ntmps61
    go_wp2
    go_ret
    exact ⟨ret_eq (by simp [right];omega),(Below.refl _ _).alloc (Nat.le_refl _) _⟩
 ·have e1 : (pg == 1024) = false:=by simp;omega
  have e2 : (pg == 2048) = false:=by simp;omega
  have e3 : (pg == 4096) = false:=by simp;omega
  have e4 : (pg == 8192) = false:=by simp;omega
  have HP:=Ld hp
  clear hp hw
  go_enter Tryz.func61,Tryz.ntmps61
  go_wp2
  go_ret
  exact ⟨ret_eq (show Value.bool false = _ by rw [show right pg wd = false from decide_eq_false (fun h => HP.out h.1)]),(Below.refl _ _).alloc (Nat.le_refl _) _⟩
theorem results_c1 {P : Program} {fn : Func} {p : Tmp} {ty : TypeId} (h : fn.results = #[.cell p ty]) (tmps : Array Value) (w : World) (g : Nat) (t : TypeId) (cs : Array Value) (fr : Nat × Nat) (d : TypeDesc)
 (hp : tmps.getD p undef = .pointer (some ⟨g,0,none⟩)) (hg : w.heap[g]? = some (.cells cs t fr))
 (hu : P.underlying ty = some d) (hd : (match d with | .struct _ | .array _ _ => true | _ => false) = true) (hi : (P.info? ty).map (·.size) = some cs.size) :
 (results fn tmps).run P w = .ok (.agg cs) w:=by
 have hp' : tmps[p]?.getD undef = .pointer (some ⟨g,0,none⟩):=by simpa using hp
 simp [results,h,hp',asAddr,run_loadVar_row w g t ty cs fr d hg hu hd hi]
theorem textItem_c (s : ByteArray) (w : World) : Calls Tryz.prog 85 #[.string s] w fun e w' => e = .returned (VI.mk 5 false 0 0 s none 0 []).val ∧ Below w.heap.size w w':=by
 go_enter Tryz.func85,Tryz.ntmps85
 go_wp2
 exact bodyPost_ret (results_c1 rfl _ _ w.heap.size 54 _ (0,0) _ rfl (heap_alloc_new w _) Tryz.underlying54 rfl (by kernel_rfl)) rfl ⟨rfl,(Below.refl _ _).alloc (Nat.le_refl _) _⟩
theorem intItem_c (n : Int) (w : World) : Calls Tryz.prog 91 #[.int .i64 n] w fun e w' => e = .returned (VI.mk 3 false n 0 ⟨#[]⟩ none 0 []).val ∧ Below w.heap.size w w':=by
 go_enter Tryz.func91,Tryz.ntmps91
 go_wp2
 exact bodyPost_ret (results_c1 rfl _ _ w.heap.size 54 _ (0,0) _ rfl (heap_alloc_new w _) Tryz.underlying54 rfl (by kernel_rfl)) rfl ⟨rfl,(Below.refl _ _).alloc (Nat.le_refl _) _⟩
def nameC (i : Nat) (c : UInt8) : Bool:=(decide (97 ≤ c.toNat) && decide (c.toNat ≤ 122)) || (decide (0 < i) && ((decide (48 ≤ c.toNat) && decide (c.toNat ≤ 57)) || decide (c.toNat = 95)))
def nameL : Nat → List UInt8 → Bool
 | _,[] => true
 | i,c :: r => nameC i c && nameL (i + 1) r
def nameB (s : List UInt8) : Bool:=decide (1 ≤ s.length) && decide (s.length ≤ 16) && nameL 0 s
theorem nameL_drop (l : List UInt8) (k : Nat) (h : k < l.length) : nameL k (l.drop k) = (nameC k l[k] && nameL (k + 1) (l.drop (k + 1))):=by
 rw [List.drop_eq_getElem_cons h,nameL]
theorem name_c (s : ByteArray) (w : World) (hs : s.size ≤ 140737488355328) : Calls Tryz.prog 90 #[.string s] w fun e w' => e = .returned (.bool (nameB s.data.toList)) ∧ w = w':=by
 have HL:=Ld (show s.data.toList.length = s.size by rw [Array.length_toList];rfl)
 by_cases h0 : s.size < 1
 ·have HN:=Ld (show nameB s.data.toList = false by have:=HL.out;simp [nameB];omega)
  go_enter Tryz.func90,Tryz.ntmps90
  go_wp2
  go_ret
  exact ⟨ret_eq (by rw [HN.out];rfl),rfl⟩
 ·by_cases h1 : 16 < s.size
  ·have HN:=Ld (show nameB s.data.toList = false by have:=HL.out;simp [nameB];omega)
   go_enter Tryz.func90,Tryz.ntmps90
   go_wp2
   go_ret
   exact ⟨ret_eq (by rw [HN.out];rfl),rfl⟩
  ·have HN:=Ld (show nameB s.data.toList = nameL 0 s.data.toList by have:=HL.out;simp only [nameB];rw [decide_eq_true (by omega),decide_eq_true (by omega)];rfl)
   go_enter Tryz.func90,Tryz.ntmps90
   go_wp2
   go_loopw [15] (fun i wr => ∃ k : Nat,k ≤ s.size ∧ i = .int .i64 k ∧ Hid (nameL 0 s.data.toList = nameL k (s.data.toList.drop k)) ∧ w = wr) (fun i _ => s.size - (intOf i).toNat)
   case atStart => exact ⟨0,Nat.zero_le _,rfl,rfl,rfl⟩
   case round =>
    obtain ⟨k,hk,rfl,hn,hw⟩:=hrel
    subst hw
    by_cases hlt : k < s.size
    ·have HND:=Ld (nameL_drop s.data.toList k (by have:=HL.out;omega))
     have HGE:=Ld (show s.data.toList[k]'(by have:=HL.out;omega) = s[k] from rfl)
     go_wp2
     all_goals first
      | (have hc : nameC k s[k] = true:=by
          (try simp only [beq_iff_eq,beq_eq_false_iff_ne] at *)
          simp only [nameC,Bool.or_eq_true,Bool.and_eq_true,decide_eq_true_eq]
          omega
         exact ⟨⟨k + 1,by omega,by go_num,Ld (by rw [hn.out,HND.out,HGE.out,hc];rfl),trivial⟩,by simp [intOf];omega⟩)
      | (have hc : nameC k s[k] = false:=by
          (try simp only [beq_iff_eq,beq_eq_false_iff_ne] at *)
          rw [← Bool.not_eq_true]
          simp only [nameC,Bool.or_eq_true,Bool.and_eq_true,decide_eq_true_eq]
          omega
         go_ret
         exact ⟨ret_eq (by rw [HN.out,hn.out,HND.out,HGE.out,hc];rfl),rfl⟩)
    ·go_wp2
     go_ret
     have hk' : s.data.toList.drop k = []:=List.drop_eq_nil_of_le (by have:=HL.out;omega)
     exact ⟨ret_eq (by rw [HN.out,hn.out,hk'];rfl),rfl⟩
end
section
open Go.RowKit
set_option maxHeartbeats 1000000
set_option maxRecDepth 100000
structure ColD where
 name : ByteArray
 kind : Int
 null : Bool
structure TabD where
 name : ByteArray
 cols : List ColD
 keys : Int
def ColD.cells (c : ColD) : List Value:=[.string c.name,.int .u8 c.kind,.bool c.null]
def ccells (l : List ColD) : List Value:=l.flatMap ColD.cells
abbrev vT (t : TabD) (A : Option Addr) (c : Nat) : Value:=.agg #[.string t.name,.slice A t.cols.length c,.int .i64 t.keys]
structure RdT (w : World) (A : Option Addr) (c : Nat) (t : TabD) : Prop where
 rd : Rd w 3 A t.cols.length (ccells t.cols)
 hc : t.cols.length ≤ c
 hb : t.cols.length * 24 ≤ 140737488355328
 hn : t.name.size ≤ 140737488355328
 hk : -9223372036854775808 ≤ t.keys ∧ t.keys ≤ 9223372036854775807
 hx : ∀ x ∈ t.cols,x.name.size ≤ 140737488355328 ∧ 0 ≤ x.kind ∧ x.kind ≤ 255
theorem RdT.below {w w' : World} {A : Option Addr} {c : Nat} {t : TabD} (h : RdT w A c t) (hb : Below w.heap.size w w') : RdT w' A c t:=⟨h.rd.below hb,h.hc,h.hb,h.hn,h.hk,h.hx⟩
theorem col_at {w : World} {b o : Nat} {l : List ColD} (h : Rd w 3 (some ⟨b,o,none⟩) l.length (ccells l)) {k : Nat} (hk : k < l.length) :
 w.cell? ⟨b,o + k * 3,none⟩ = some (.string l[k].name) ∧ w.cell? ⟨b,o + k * 3 + 1,none⟩ = some (.int .u8 l[k].kind) ∧ w.cell? ⟨b,o + k * 3 + 2,none⟩ = some (.bool l[k].null):=by
 obtain ⟨b',o',e,hc⟩:=h.2 (by omega)
 cases e
 have hp:=flat_get ColD.cells 3 l (fun _ _ => rfl) k hk
 refine ⟨?_,?_,?_⟩
 ·exact hc _ _ (by rw [show k * 3 = k * 3 + 0 from rfl];exact (hp 0 (by decide)).trans rfl)
 ·rw [Nat.add_assoc];exact hc _ _ ((hp 1 (by decide)).trans rfl)
 ·rw [Nat.add_assoc];exact hc _ _ ((hp 2 (by decide)).trans rfl)
def shapedAt (t : TabD) (i : Nat) : Bool :=
 match t.cols[i]? with
 | none => true
 | some c => nameB c.name.data.toList && !((t.cols.take i).any fun d => d.name.data.toList == c.name.data.toList) && decide (2 ≤ c.kind) && decide (c.kind ≤ 6) && !(decide ((i : Int) < t.keys) && c.null)
def shapedB (t : TabD) : Bool :=
 nameB t.name.data.toList && decide (1 ≤ t.cols.length) && decide (t.cols.length ≤ 16) && decide (1 ≤ t.keys) && decide (t.keys ≤ t.cols.length) && (List.range t.cols.length).all (shapedAt t)
theorem shapedB_of {t : TabD} (h1 : nameB t.name.data.toList = true) (h2 : 1 ≤ t.cols.length) (h3 : t.cols.length ≤ 16) (h4 : 1 ≤ t.keys) (h5 : t.keys ≤ t.cols.length) (h : ∀ i,i < t.cols.length → shapedAt t i = true) : shapedB t = true:=by
 unfold shapedB
 rw [h1,decide_eq_true h2,decide_eq_true h3,decide_eq_true h4,decide_eq_true h5,List.all_eq_true.2 (fun i hi => h i (List.mem_range.1 hi))]
 rfl
theorem shapedB_not {t : TabD} {i : Nat} (hi : i < t.cols.length) (h : shapedAt t i = false) : shapedB t = false:=by
 unfold shapedB
 rw [List.all_eq_false.2 ⟨i,List.mem_range.2 hi,by rw [h];decide⟩,Bool.and_false]
def cntN (l : List ColD) (nm : List UInt8) : Nat:=l.countP fun d => d.name.data.toList == nm
theorem cntN_snoc (l : List ColD) (c : ColD) (nm : List UInt8) : cntN (l ++ [c]) nm = cntN l nm + if c.name.data.toList == nm then 1 else 0:=by
 simp [cntN,List.countP_append,List.countP_cons]
theorem cntN_any (l : List ColD) (nm : List UInt8) : (l.any fun d => d.name.data.toList == nm) = decide (0 < cntN l nm):=by
 rw [Bool.eq_iff_iff,List.any_eq_true,decide_eq_true_eq]
 exact List.countP_pos_iff.symm
theorem cntN_le (l : List ColD) (nm : List UInt8) : cntN l nm ≤ l.length:=List.countP_le_length
def Seen (w : World) (B n : Nat) (l : List ColD) : Prop:=∃ D : DataW Unit,w.ownsMap Tryz.prog 9 (plainElem (H:=Unit) Tryz.prog 3) B n D ∧ Maps.IsMap D ∧ ∀ nm : List UInt8,D.atKey (.string nm) (.lit (.int .i64 0)) = .lit (.int .i64 (cntN l nm))
end
end Go.Proofs.YtonjgedhmmnolaaGreatDoor
