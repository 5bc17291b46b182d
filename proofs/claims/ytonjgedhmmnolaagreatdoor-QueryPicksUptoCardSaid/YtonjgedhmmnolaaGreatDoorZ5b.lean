import Derived.Test.YtonjgedhmmnolaaGreatDoorZ5
namespace Go.Proofs.YtonjgedhmmnolaaGreatDoor
section
open Go.RowKit
set_option maxHeartbeats 1000000
set_option maxRecDepth 100000
def RdB (w : World) (b o : Nat) (bs : List UInt8) : Prop:=∀ (j : Nat) (c : UInt8),bs[j]? = some c → w.cell? ⟨b,o + j,none⟩ = some (.int .u8 (c.toNat : Int))
section
variable {w w' : World} {b o k : Nat} {bs : List UInt8}
theorem RdB.below (h : RdB w b o bs) (hb : Below w.heap.size w w') : RdB w' b o bs:=fun j c hc => by
 have h1:=h j c hc
 exact (hb.cell (p:=⟨b,o + j,none⟩) (World.block_lt_of_cell? w _ h1)).trans h1
theorem RdB.drop (h : RdB w b o bs) : RdB w b (o + k) (bs.drop k):=fun j c hc => by
 rw [List.getElem?_drop] at hc
 have:=h _ c hc
 rw [Nat.add_assoc];exact this
theorem RdB.rd (h : RdB w b o bs) : Rd w 1 (some ⟨b,o,none⟩) bs.length (bts bs):=by
 refine ⟨by rw [bts_len];simp,fun _ => ⟨b,o,rfl,fun j u hu => ?_⟩⟩
 rw [bts,List.getElem?_map] at hu
 cases hc : bs[j]? with
 | none => rw [hc] at hu;cases hu
 | some c => rw [hc] at hu;cases hu;exact h j c hc
end
abbrev srcBox (w : World) (g b o n c : Nat) (m : Nat) : Prop:=w.heap[g]? = some (.cells #[.slice (some ⟨b,o,none⟩) n c,.int .i64 m] 140 (0,0))
def GulpEnd (g b o c k : Nat) (bs : List UInt8) (w : World) (e : Ending) (w' : World) : Prop :=
 if bs.length < k then e = .returned (.tuple #[.slice none 0 0,.bool false]) ∧ w' = w
 else ∃ o' c',e = .returned (.tuple #[.slice (some ⟨b,o,none⟩) k c,.bool true]) ∧ w' = w.setCell ⟨g,0,none⟩ (.slice (some ⟨b,o',none⟩) (bs.length - k) c') ∧ bs.length - k ≤ c' ∧ c' ≤ c ∧ (k < bs.length → o' = o + k)
theorem gulp_c (g b o c m k : Nat) (bs : List UInt8) (w : World) (hc : bs.length ≤ c) (hS : srcBox w g b o bs.length c m) :
 Calls Tryz.prog 125 #[.pointer (some ⟨g,0,none⟩),.int .i64 k] w (GulpEnd g b o c k bs w):=by
 obtain ⟨⟨q0,q1⟩,⟨f0,f1⟩⟩:=cells2 hS
 have hg:=World.block_lt_of_cell? w _ q0
 by_cases hk : bs.length < k
 ·go_enter Tryz.func125,Tryz.ntmps125
  go_wp2
  go_ret2
  rw [GulpEnd,if_pos hk]
  exact ⟨rfl,rfl⟩
 ·have hkc : k ≤ c:=by omega
  have hkl : k ≤ bs.length:=by omega
  have hn : ¬ bs.length < k:=hk
  go_enter Tryz.func125,Tryz.ntmps125
  go_wp2
  ·go_ret2
   rw [GulpEnd,if_neg hk]
   exact ⟨o,0,rfl,rfl,by omega,by omega,by omega⟩
  ·go_ret2
   rw [GulpEnd,if_neg hk]
   exact ⟨o + k,c - k,rfl,rfl,by omega,by omega,fun _ => rfl⟩
structure Src (w0 : World) (g b : Nat) (bs : List UInt8) (m : Nat) (w : World) : Prop where
 ex : ∃ o c,RdB w0 b o bs ∧ bs.length ≤ c ∧ srcBox w g b o bs.length c m
 bel : Below g w0 w
 hg : w0.heap.size ≤ g
section
variable {w0 w w' : World} {g b m : Nat} {bs : List UInt8}
theorem Src.lt (h : Src w0 g b bs m w) : g < w.heap.size:=by
 obtain ⟨o,c,_,_,hb⟩:=h.ex
 exact (Array.getElem?_eq_some_iff.1 hb).1
theorem Src.step (h : Src w0 g b bs m w) (hb : Below w.heap.size w w') : Src w0 g b bs m w':=by
 obtain ⟨o,c,h1,h2,h3⟩:=h.ex
 exact ⟨⟨o,c,h1,h2,(hb.block g h.lt).trans h3⟩,h.bel.trans (hb.mono (Nat.le_of_lt h.lt)),h.hg⟩
theorem Src.kept (h : Src w0 g b bs m w) {S : Nat → Prop} (hb : Kept S w w') (hs : ∀ k,k ≤ g → ¬ S k) : Src w0 g b bs m w':=by
 obtain ⟨o,c,h1,h2,h3⟩:=h.ex
 exact ⟨⟨o,c,h1,h2,(hb.block g h.lt (hs g (Nat.le_refl _))).trans h3⟩,h.bel.trans (hb.below (Nat.le_of_lt h.lt) (fun k hk => hs k (Nat.le_of_lt hk))),h.hg⟩
theorem Src.count (h : Src w0 g b bs m w) (m' : Nat) (z : Int) (hz : z = m') : Src w0 g b bs m' (w.setCell ⟨g,1,none⟩ (.int .i64 z)):=by
 subst hz
 obtain ⟨o,c,h1,h2,h3⟩:=h.ex
 exact ⟨⟨o,c,h1,h2,heap_setCell_same w g 1 _ _ (.int .i64 m') h3⟩,h.bel.setCell (p:=⟨g,1,none⟩) (Nat.le_refl _) _,h.hg⟩
end
def GulpK (w0 : World) (g b m k : Nat) (bs : List UInt8) (w : World) (e : Ending) (w' : World) : Prop :=
 if bs.length < k then e = .returned (.tuple #[.slice none 0 0,.bool false]) ∧ w' = w
 else ∃ o c,e = .returned (.tuple #[.slice (some ⟨b,o,none⟩) k c,.bool true]) ∧ RdB w0 b o bs ∧ k ≤ c ∧ Src w0 g b (bs.drop k) m w' ∧ Kept (fun j => j = g) w w'
theorem gulp_k (w0 : World) (g b m k : Nat) (bs : List UInt8) (w : World) (h : Src w0 g b bs m w) :
 Calls Tryz.prog 125 #[.pointer (some ⟨g,0,none⟩),.int .i64 k] w (GulpK w0 g b m k bs w):=by
 obtain ⟨o,c,h1,h2,h3⟩:=h.ex
 refine (gulp_c g b o c m k bs w h2 h3).mono ?_
 intro e w' he
 unfold GulpEnd at he
 unfold GulpK
 by_cases hk : bs.length < k
 ·rw [if_pos hk] at he ⊢;exact he
 ·rw [if_neg hk] at he ⊢
  obtain ⟨o',c',rfl,rfl,h4,h5,h6⟩:=he
  refine ⟨o,c,rfl,h1,by omega,⟨⟨o',c',?_,by rw [List.length_drop];exact h4,?_⟩,h.bel.setCell (p:=⟨g,0,none⟩) (Nat.le_refl _) _,h.hg⟩,(Kept.refl _ _).setCell _ (.inl rfl)⟩
  ·by_cases hk' : k < bs.length
   ·rw [h6 hk'];exact h1.drop
   ·rw [List.drop_eq_nil_of_le (by omega)]
    intro j c hc;simp at hc
  ·rw [List.length_drop]
   exact heap_setCell_same w g 0 _ _ _ h3
theorem GulpK.short {w0 w w' : World} {g b m k : Nat} {bs : List UInt8} {e : Ending} (h : GulpK w0 g b m k bs w e w') (hk : bs.length < k) : e = .returned (.tuple #[.slice none 0 0,.bool false]) ∧ w' = w:=by
 rw [GulpK,if_pos hk] at h;exact h
theorem GulpK.full {w0 w w' : World} {g b m k : Nat} {bs : List UInt8} {e : Ending} (h : GulpK w0 g b m k bs w e w') (hk : k ≤ bs.length) : ∃ o c,e = .returned (.tuple #[.slice (some ⟨b,o,none⟩) k c,.bool true]) ∧ RdB w0 b o bs ∧ k ≤ c ∧ Src w0 g b (bs.drop k) m w' ∧ Kept (fun j => j = g) w w':=by
 rw [GulpK,if_neg (by omega)] at h;exact h
theorem or_byte (u : Nat) (c : UInt8) (hu : u < 72057594037927936) : bits BinOp.or IntKind.u64 (IntKind.u64.wrap ((u : Int) * 256)) (IntKind.u64.wrap (c.toNat : Int)) = ((256 * u + c.toNat : Nat) : Int):=by
 have hc:=c.toNat_lt
 rw [IntWalk.u64_in _ (by omega),IntWalk.u64_in _ (by omega),show (u : Int) * 256 = ((u * 256 : Nat) : Int) by omega]
 have h:=Nat.two_pow_add_eq_or_of_lt (i:=8) (b:=c.toNat) (by omega) u
 rw [show 2 ^ 8 * u = 256 * u by rfl] at h
 rw [show u * 256 = 256 * u by omega]
 show IntKind.u64.wrap ((BitVec.ofInt 64 ((256 * u : Nat) : Int) ||| BitVec.ofInt 64 (c.toNat : Int)).toNat : Int) = _
 have h1 : (BitVec.ofInt 64 ((256 * u : Nat) : Int)).toNat = 256 * u:=by rw [BitVec.ofInt_natCast,BitVec.toNat_ofNat];exact Nat.mod_eq_of_lt (by omega)
 have h2 : (BitVec.ofInt 64 (c.toNat : Int)).toNat = c.toNat:=by rw [BitVec.ofInt_natCast,BitVec.toNat_ofNat];exact Nat.mod_eq_of_lt (by omega)
 rw [BitVec.toNat_or,h1,h2,← h]
 exact IntWalk.u64_in _ (by omega)
theorem numB_take {bs : List UInt8} {j : Nat} (h : j < bs.length) : numB (bs.take (j + 1)) = 256 * numB (bs.take j) + bs[j].toNat:=by
 rw [← List.take_append_getElem h,numB_snoc]
theorem numB_take_lt (bs : List UInt8) {j k : Nat} (h : j ≤ k) : numB (bs.take j) < 256 ^ k :=
 Nat.lt_of_lt_of_le (numB_lt _) (Nat.pow_le_pow_right (by decide) (by rw [List.length_take];omega))
theorem i64_range (x : Int) : -9223372036854775808 ≤ IntKind.i64.wrap x ∧ IntKind.i64.wrap x ≤ 9223372036854775807:=by rw [IntKind.wrap_i64];omega
theorem parW_eq (n : Int) (bs : List UInt8) : parW n bs = if bs.length < n.natAbs then none
 else if needN (valW n (numB (bs.take n.natAbs))).natAbs = n.natAbs ∧ (n < 0 ↔ valW n (numB (bs.take n.natAbs)) < 0) then some (valW n (numB (bs.take n.natAbs)),bs.drop n.natAbs) else none:=by unfold parW;rfl
theorem wrap64_eq (x : Int) : IntKind.i64.wrap x = wrap64 x:=by rw [IntKind.wrap_i64,wrap64]
theorem or_mask1 (u M j a : Nat) (hM : M = 2 ^ (8 * j) * a) (hM' : M + 2 ^ (8 * j) ≤ 18446744073709551616) (hu : u < 2 ^ (8 * j)) : bits BinOp.or IntKind.u64 (u : Int) (M : Int) = ((M + u : Nat) : Int):=by
 have h:=Nat.two_pow_add_eq_or_of_lt (i:=8 * j) (b:=u) hu a
 rw [← hM] at h
 show IntKind.u64.wrap ((BitVec.ofInt 64 (u : Int) ||| BitVec.ofInt 64 (M : Int)).toNat : Int) = _
 have h1 : (BitVec.ofInt 64 (u : Int)).toNat = u:=by rw [BitVec.ofInt_natCast,BitVec.toNat_ofNat];exact Nat.mod_eq_of_lt (by omega)
 have h2 : (BitVec.ofInt 64 (M : Int)).toNat = M:=by rw [BitVec.ofInt_natCast,BitVec.toNat_ofNat];exact Nat.mod_eq_of_lt (by omega)
 rw [BitVec.toNat_or,h1,h2,Nat.or_comm,← h]
 exact IntWalk.u64_in _ (by omega)
theorem fill_val (u M j a : Nat) (n LIT : Int) (hn : n < 0) (hj : n.natAbs = j) (hL : IntKind.u64.wrap LIT = (M : Int)) (hM : M = 2 ^ (8 * j) * a) (hM' : M + 2 ^ (8 * j) = 18446744073709551616) (hu : u < 256 ^ j) :
 wrap64 (IntKind.u64.wrap (bits BinOp.or IntKind.u64 (u : Int) (IntKind.u64.wrap LIT) + 1)) = valW n u:=by
 have hp : (256 : Nat) ^ j = 2 ^ (8 * j):=by rw [Nat.pow_mul]
 rw [hp] at hu
 have hpi : (256 : Int) ^ j = ((2 ^ (8 * j) : Nat) : Int):=by rw [← hp];push_cast;rfl
 rw [hL,or_mask1 u M j a hM (by omega) hu,valW,if_pos hn,hj,hpi,wrap64_eq,wrap64,wrap64,IntKind.wrap_u64]
 generalize 2 ^ (8 * j) = p at *
 omega
theorem fill_val8 (u : Nat) (n : Int) (hn : n < 0) (hj : n.natAbs = 8) : wrap64 (IntKind.u64.wrap ((u : Int) + 1)) = valW n u:=by
 rw [valW,if_pos hn,hj,wrap64_eq,wrap64,wrap64,IntKind.wrap_u64]
 omega
theorem fill_val_1 (u : Nat) (n : Int) (hn : n < 0) (hj : n.natAbs = 1) (hu : u < 256 ^ 1) : wrap64 (IntKind.u64.wrap (bits BinOp.or IntKind.u64 (u : Int) (IntKind.u64.wrap 4722366482869645213440) + 1)) = valW n u:=by
 refine fill_val u 18446744073709551360 1 72057594037927935 n 4722366482869645213440 hn hj ?_ (by decide) (by decide) hu
 rw [IntKind.wrap_u64];rfl
theorem fill_val_2 (u : Nat) (n : Int) (hn : n < 0) (hj : n.natAbs = 2) (hu : u < 256 ^ 2) : wrap64 (IntKind.u64.wrap (bits BinOp.or IntKind.u64 (u : Int) (IntKind.u64.wrap 1208925819614629174640640) + 1)) = valW n u:=by
 refine fill_val u 18446744073709486080 2 281474976710655 n 1208925819614629174640640 hn hj ?_ (by decide) (by decide) hu
 rw [IntKind.wrap_u64];rfl
theorem fill_val_3 (u : Nat) (n : Int) (hn : n < 0) (hj : n.natAbs = 3) (hu : u < 256 ^ 3) : wrap64 (IntKind.u64.wrap (bits BinOp.or IntKind.u64 (u : Int) (IntKind.u64.wrap 309485009821345068708003840) + 1)) = valW n u:=by
 refine fill_val u 18446744073692774400 3 1099511627775 n 309485009821345068708003840 hn hj ?_ (by decide) (by decide) hu
 rw [IntKind.wrap_u64];rfl
theorem fill_val_4 (u : Nat) (n : Int) (hn : n < 0) (hj : n.natAbs = 4) (hu : u < 256 ^ 4) : wrap64 (IntKind.u64.wrap (bits BinOp.or IntKind.u64 (u : Int) (IntKind.u64.wrap 79228162514264337589248983040) + 1)) = valW n u:=by
 refine fill_val u 18446744069414584320 4 4294967295 n 79228162514264337589248983040 hn hj ?_ (by decide) (by decide) hu
 rw [IntKind.wrap_u64];rfl
theorem fill_val_5 (u : Nat) (n : Int) (hn : n < 0) (hj : n.natAbs = 5) (hu : u < 256 ^ 5) : wrap64 (IntKind.u64.wrap (bits BinOp.or IntKind.u64 (u : Int) (IntKind.u64.wrap 20282409603651670422847739658240) + 1)) = valW n u:=by
 refine fill_val u 18446742974197923840 5 16777215 n 20282409603651670422847739658240 hn hj ?_ (by decide) (by decide) hu
 rw [IntKind.wrap_u64];rfl
theorem fill_val_6 (u : Nat) (n : Int) (hn : n < 0) (hj : n.natAbs = 6) (hu : u < 256 ^ 6) : wrap64 (IntKind.u64.wrap (bits BinOp.or IntKind.u64 (u : Int) (IntKind.u64.wrap 5192296858534827628249021352509440) + 1)) = valW n u:=by
 refine fill_val u 18446462598732840960 6 65535 n 5192296858534827628249021352509440 hn hj ?_ (by decide) (by decide) hu
 rw [IntKind.wrap_u64];rfl
theorem fill_val_7 (u : Nat) (n : Int) (hn : n < 0) (hj : n.natAbs = 7) (hu : u < 256 ^ 7) : wrap64 (IntKind.u64.wrap (bits BinOp.or IntKind.u64 (u : Int) (IntKind.u64.wrap 1329227995784915872831749466242416640) + 1)) = valW n u:=by
 refine fill_val u 18374686479671623680 7 255 n 1329227995784915872831749466242416640 hn hj ?_ (by decide) (by decide) hu
 rw [IntKind.wrap_u64];rfl
theorem fill_gen (u j : Nat) (n : Int) (hn : n < 0) (hj : n.natAbs = j) (hj8 : j < 8) (hu : u < 256 ^ j) : wrap64 (IntKind.u64.wrap (bits BinOp.or IntKind.u64 (u : Int) (IntKind.u64.wrap (18446744073709551615 * 2 ^ (8 * j))) + 1)) = valW n u:=by
 have h : j = 1 ∨ j = 2 ∨ j = 3 ∨ j = 4 ∨ j = 5 ∨ j = 6 ∨ j = 7:=by omega
 rcases h with rfl | rfl | rfl | rfl | rfl | rfl | rfl
 ·exact fill_val_1 u n hn hj hu
 ·exact fill_val_2 u n hn hj hu
 ·exact fill_val_3 u n hn hj hu
 ·exact fill_val_4 u n hn hj hu
 ·exact fill_val_5 u n hn hj hu
 ·exact fill_val_6 u n hn hj hu
 ·exact fill_val_7 u n hn hj hu
theorem whole_end {w0 w w1 : World} {g b m j : Nat} {n V : Int} {bs : List UInt8} {bb : Bool} (hP : parW n bs = if needN V.natAbs = j ∧ (n < 0 ↔ V < 0) then some (V,bs.drop j) else none) (hj : needN V.natAbs = j) (hb : bb = decide (n < 0 ↔ V < 0))
 (hV : -9223372036854775808 ≤ V ∧ V ≤ 9223372036854775807) (hK : Kept (fun j => j = g) w w1) (hS : Src w0 g b (bs.drop j) m w1) :
 ∃ v : Int,(-9223372036854775808 ≤ v ∧ v ≤ 9223372036854775807) ∧ Ending.returned (.tuple #[.int .i64 V,.bool bb]) = .returned (.tuple #[.int .i64 v,.bool (parW n bs).isSome]) ∧ Kept (fun j => j = g) w w1 ∧
   ∀ p,parW n bs = some p → p.1 = v ∧ Src w0 g b p.2 m w1:=by
 subst hb
 refine ⟨V,hV,?_,hK,?_⟩
 ·rw [hP]
  by_cases h : n < 0 ↔ V < 0
  ·simp [hj,h]
  ·simp [h]
 ·intro p hp
  rw [hP] at hp
  split at hp
  ·cases hp;exact ⟨rfl,hS⟩
  ·cases hp
theorem whole_end' {w0 w w1 : World} {g b m j : Nat} {n V : Int} {bs : List UInt8} (hP : parW n bs = if needN V.natAbs = j ∧ (n < 0 ↔ V < 0) then some (V,bs.drop j) else none) (hj : needN V.natAbs ≠ j)
 (hV : -9223372036854775808 ≤ V ∧ V ≤ 9223372036854775807) (hK : Kept (fun j => j = g) w w1) :
 ∃ v : Int,(-9223372036854775808 ≤ v ∧ v ≤ 9223372036854775807) ∧ Ending.returned (.tuple #[.int .i64 V,.bool false]) = .returned (.tuple #[.int .i64 v,.bool (parW n bs).isSome]) ∧ Kept (fun j => j = g) w w1 ∧
   ∀ p,parW n bs = some p → p.1 = v ∧ Src w0 g b p.2 m w1:=by
 have hP' : parW n bs = none:=by rw [hP,if_neg (fun h => hj h.1)]
 exact ⟨V,hV,by rw [hP'];rfl,hK,fun p hp => by rw [hP'] at hp;cases hp⟩
theorem whole_c (w0 : World) (g b m : Nat) (n : Int) (hn : -8 ≤ n ∧ n ≤ 8) (bs : List UInt8) (w : World) (h : Src w0 g b bs m w) :
 Calls Tryz.prog 126 #[.pointer (some ⟨g,0,none⟩),.int .i64 n] w fun e w' => ∃ v : Int,(-9223372036854775808 ≤ v ∧ v ≤ 9223372036854775807) ∧ e = .returned (.tuple #[.int .i64 v,.bool (parW n bs).isSome]) ∧ Kept (fun j => j = g) w w' ∧
  ∀ p,parW n bs = some p → p.1 = v ∧ Src w0 g b p.2 m w':=by
 have HS:=Ld h
 have hmax : ∀ w,(Builtin.max_ #[3,3] 3 #[.int .i64 n,.int .i64 (-n)]).run Tryz.prog w = .ok (.int .i64 n.natAbs) w:=by
  intro w
  rw [run_max_int2]
  congr 2
  split <;> omega
 have hnz : n.natAbs ≤ 8:=by omega
 clear h
 have HPW:=Ld (parW_eq n bs)
 generalize hkn : n.natAbs = k at *
 have HKN:=Ld hkn
 clear hkn
 by_cases hk : bs.length < k
 ·have HP:=Ld (show parW n bs = none by rw [HPW.out,if_pos hk])
  go_enter Tryz.func126,Tryz.ntmps126
  go_wp2_with (go_at_call 125;go_must (refine (gulp_k w0 g b m k bs _ HS.out).mono ?_;rintro e w1 he;obtain ⟨rfl,rfl⟩:=he.short hk;clear he))
  go_ret2
  exact ⟨0,by omega,by rw [HP.out];rfl,.refl _ _,fun p hp => by rw [HP.out] at hp;cases hp⟩
 ·have hkl : k ≤ bs.length:=by omega
  rw [if_neg hk] at HPW
  have hU:=Ld (numB_take_lt bs (Nat.le_refl k))
  have hU8:=Ld (numB_take_lt bs hnz)
  go_enter Tryz.func126,Tryz.ntmps126
  go_wp2_with (go_at_call 125;go_must (refine (gulp_k w0 g b m k bs _ HS.out).mono ?_;rintro e w1 he;obtain ⟨o,c,rfl,h1,h2,h3,h4⟩:=he.full hkl;have H1:=Ld (h1.below (h3.bel.mono h3.hg));have H3:=Ld h3;have H4:=Ld h4;clear he h1 h3 h4))
  go_loopw [27,9] (fun i u wr => ∃ j : Nat,j ≤ k ∧ i = .int .i64 j ∧ u = .int .u64 (numB (bs.take j) : Nat) ∧ wr = w1) (fun i _ _ => k - (intOf i).toNat)
  case atStart => exact ⟨0,Nat.zero_le _,rfl,rfl,rfl⟩
  case round =>
   obtain ⟨j,hj,rfl,rfl,hwr⟩:=hrel
   subst wr
   by_cases hjn : j < k
   ·have hjb : j < bs.length:=by omega
    have q0 : w1.cell? ⟨b,o + j,none⟩ = some (.int .u8 (bs[j].toNat : Int)):=H1.out j _ (List.getElem?_eq_getElem hjb)
    have HOB:=Ld (or_byte (numB (bs.take j)) bs[j] (numB_take_lt bs (show j ≤ 7 by omega)))
    go_wp2
    refine ⟨⟨j + 1,by omega,by go_num,?_,by trivial⟩,by simp [intOf];omega⟩
    rw [HOB.out,numB_take hjb]
   ·have hjn : j = k:=by omega
    subst hjn
    have HN:=Ld hn
    clear hn hk hj hmax
    obtain ⟨U,hUU⟩ : ∃ U : Nat,numB (bs.take j) = U:=⟨_,rfl⟩
    rw [hUU] at HPW hU hU8 ⊢
    clear hUU
    obtain ⟨Z,hZ⟩ : ∃ Z : Int,(U : Int) = Z:=⟨_,rfl⟩
    rw [hZ]
    have HZ:=Ld hZ
    clear hZ
    by_cases hneg : n < 0
    ·have hj1 : 1 ≤ j:=by have:=HKN.out;omega
     by_cases hj8 : j < 8
     ·obtain ⟨E1,hE1⟩ : ∃ E1,IntKind.u64.wrap (18446744073709551615 * 2 ^ (8 * j)) = E1:=⟨_,rfl⟩
      obtain ⟨E,hE⟩ : ∃ E,bits BinOp.or IntKind.u64 Z E1 = E:=⟨_,rfl⟩
      obtain ⟨V,hV⟩ : ∃ V,wrap64 (IntKind.u64.wrap (E + 1)) = V:=⟨_,rfl⟩
      have HVE:=Ld (show valW n U = V by rw [← hV,← hE,← hE1,← HZ.out];exact (fill_gen U j n hneg HKN.out hj8 hU.out).symm)
      have HVR:=Ld (show -9223372036854775808 ≤ V ∧ V ≤ 9223372036854775807 by rw [← hV,← wrap64_eq];exact i64_range _)
      rw [HVE.out] at HPW
      clear HVE
      go_wp2_with (go_at_call 116;go_must (refine (width_c V HVR.out _).mono ?_;rintro e w2 ⟨rfl,rfl⟩))
      ·have hq:=‹(needN V.natAbs : Int) = (j : Int)›
       go_ret2
       exact whole_end HPW.out (by omega) (by simp [hneg]) HVR.out H4.out H3.out
      ·go_ret2
       exact whole_end' HPW.out (by omega) HVR.out H4.out
     ·have HJ8:=Ld (show j = 8 by omega)
      obtain ⟨V,hV⟩ : ∃ V,wrap64 (IntKind.u64.wrap (Z + 1)) = V:=⟨_,rfl⟩
      have HVE:=Ld (show valW n U = V by rw [← hV,← HZ.out];exact (fill_val8 U n hneg (HKN.out.trans HJ8.out)).symm)
      have HVR:=Ld (show -9223372036854775808 ≤ V ∧ V ≤ 9223372036854775807 by rw [← hV,← wrap64_eq];exact i64_range _)
      rw [HVE.out] at HPW
      clear HVE
      go_wp2_with (go_at_call 116;go_must (refine (width_c V HVR.out _).mono ?_;rintro e w2 ⟨rfl,rfl⟩))
      ·have hq:=‹(needN V.natAbs : Int) = (j : Int)›
       go_ret2
       exact whole_end HPW.out (by omega) (by simp [hneg]) HVR.out H4.out H3.out
      ·go_ret2
       exact whole_end' HPW.out (by omega) HVR.out H4.out
    ·obtain ⟨V,hV⟩ : ∃ V,wrap64 Z = V:=⟨_,rfl⟩
     have HVE:=Ld (show valW n U = V by rw [valW,if_neg hneg,wrap64_eq,HZ.out,hV])
     have HVR:=Ld (show -9223372036854775808 ≤ V ∧ V ≤ 9223372036854775807 by rw [← hV,← wrap64_eq];exact i64_range _)
     rw [HVE.out] at HPW
     clear HVE
     go_wp2_with (go_at_call 116;go_must (refine (width_c V HVR.out _).mono ?_;rintro e w2 ⟨rfl,rfl⟩))
     ·have hq:=‹(needN V.natAbs : Int) = (j : Int)›
      go_ret2
      exact whole_end HPW.out (by omega) (by simp [hneg]) HVR.out H4.out H3.out
     ·go_ret2
      exact whole_end' HPW.out (by omega) HVR.out H4.out
end
section
open Go.RowKit
set_option maxHeartbeats 1000000
set_option maxRecDepth 100000
theorem idx_at (cs : Array Value) (k : IntKind) (j : Nat) (hj : j < 8) (v : Value) (hv : cs[j]? = some v) (w : World) :
 (Instr.index 179 (.agg cs) (.int k j)).run Tryz.prog w = .ok v w:=by
 obtain ⟨i0,hi,hz0,hz1,hz2⟩:=info_parts infoB
 have h : Tryz.prog.underlying 179 = some (.array 8 5):=Tryz.underlying179
 have h2 : Tryz.prog.underlying 5 = some (.int .u8):=Tryz.underlying5
 unfold Instr.index
 simp [go_sem,run_underlying h,run_underlying h2,asIntOf,hj,part,isAgg,sizeOf,typeInfo,hi,hz1,hv]
theorem eight {α : Type} : ∀ (l : List α),8 ≤ l.length → ∃ a b c d e f g h r,l = a :: b :: c :: d :: e :: f :: g :: h :: r
 | a :: b :: c :: d :: e :: f :: g :: h :: r,_ => ⟨a,b,c,d,e,f,g,h,r,rfl⟩
def backU (u : Nat) : Nat:=if 9223372036854775808 ≤ u then u - 9223372036854775808 else 18446744073709551615 - u
theorem parF_eq (bs : List UInt8) (h : 8 ≤ bs.length) : parF bs = if isNan (backU (numB (bs.take 8))) = false ∨ backU (numB (bs.take 8)) = 9221120237041090560 then some (backU (numB (bs.take 8)),bs.drop 8) else none:=by
 rw [parF,if_neg (by omega)]
 rfl
theorem andNot_top (u : Nat) (h1 : 9223372036854775808 ≤ u) (h2 : u < 18446744073709551616) : bits BinOp.andNot IntKind.u64 (u : Int) 9223372036854775808 = ((u - 9223372036854775808 : Nat) : Int):=by
 show IntKind.u64.wrap ((BitVec.ofInt 64 (u : Int) &&& ~~~ BitVec.ofInt 64 9223372036854775808).toNat : Int) = _
 have e1 : (BitVec.ofInt 64 (u : Int)).toNat = u:=by rw [BitVec.ofInt_natCast,BitVec.toNat_ofNat];exact Nat.mod_eq_of_lt (by omega)
 have e2 : (~~~ BitVec.ofInt 64 9223372036854775808).toNat = 2 ^ 63 - 1:=by decide
 rw [BitVec.toNat_and,e1,e2,Nat.and_two_pow_sub_one_eq_mod]
 have : u % 2 ^ 63 = u - 9223372036854775808:=by omega
 rw [this]
 exact IntWalk.u64_in _ (by omega)
theorem not_low (u : Nat) (h2 : u < 18446744073709551616) : bits BinOp.xor IntKind.u64 IntKind.u64.max (u : Int) = ((18446744073709551615 - u : Nat) : Int):=by
 have e2 : IntKind.u64.max = ((2 ^ 64 - 1 : Nat) : Int):=by decide
 rw [e2,bits_xor_u64_nat _ _ (by decide) h2,Lib.xor_ones64 _ h2]
theorem float_end {w0 w w1 : World} {g b m B : Nat} {bs : List UInt8} {bb : Bool} (hP : parF bs = if isNan B = false ∨ B = 9221120237041090560 then some (B,bs.drop 8) else none) (hb : bb = decide (isNan B = false ∨ B = 9221120237041090560))
 (hV : B < 18446744073709551616) (hK : Kept (fun j => j = g) w w1) (hS : Src w0 g b (bs.drop 8) m w1) :
 ∃ v : Nat,v < 18446744073709551616 ∧ Ending.returned (.tuple #[.float .f64 B,.bool bb]) = .returned (.tuple #[.float .f64 v,.bool (parF bs).isSome]) ∧ Kept (fun j => j = g) w w1 ∧
   ∀ p,parF bs = some p → p.1 = v ∧ Src w0 g b p.2 m w1:=by
 subst hb
 refine ⟨B,hV,?_,hK,?_⟩
 ·rw [hP]
  by_cases h : isNan B = false ∨ B = 9221120237041090560
  ·rw [if_pos h,decide_eq_true h];rfl
  ·rw [if_neg h,decide_eq_false h];rfl
 ·intro p hp
  rw [hP] at hp
  split at hp
  ·cases hp;exact ⟨rfl,hS⟩
  ·cases hp
theorem float_bb {B : Nat} (hq : ¬FloatKind.f64.format.order B B = some Ordering.eq) : ((FloatKind.f64.format.order B B == some Ordering.eq) || ((B : Int) == 9221120237041090560)) = decide (isNan B = false ∨ B = 9221120237041090560):=by
 have h1 : (FloatKind.f64.format.order B B == some Ordering.eq) = false:=by simpa using hq
 have h2 : isNan B = true:=by simpa [isNan] using hq
 rw [h1,h2]
 by_cases h : B = 9221120237041090560
 ·subst h;rfl
 ·have : ((B : Int) == 9221120237041090560) = false:=by rw [beq_eq_false_iff_ne];omega
  rw [this];simp [h]
theorem float_c (w0 : World) (g b m : Nat) (bs : List UInt8) (w : World) (h : Src w0 g b bs m w) :
 Calls Tryz.prog 127 #[.pointer (some ⟨g,0,none⟩)] w fun e w' => ∃ v : Nat,v < 18446744073709551616 ∧ e = .returned (.tuple #[.float .f64 v,.bool (parF bs).isSome]) ∧ Kept (fun j => j = g) w w' ∧
  ∀ p,parF bs = some p → p.1 = v ∧ Src w0 g b p.2 m w':=by
 have HS:=Ld h
 clear h
 by_cases hk : bs.length < 8
 ·have HP:=Ld (show parF bs = none by rw [parF,if_pos hk])
  go_enter Tryz.func127,Tryz.ntmps127
  go_wp2_with (go_at_call 125;go_must (refine (gulp_k w0 g b m 8 bs _ HS.out).mono ?_;rintro e w1 he;obtain ⟨rfl,rfl⟩:=he.short hk;clear he))
  go_ret2
  exact ⟨0,by omega,by rw [HP.out];rfl,.refl _ _,fun p hp => by rw [HP.out] at hp;cases hp⟩
 ·have hkl : 8 ≤ bs.length:=by omega
  have HPF:=Ld (parF_eq bs hkl)
  obtain ⟨c0,c1,c2,c3,c4,c5,c6,c7,r,rfl⟩:=eight bs hkl
  have harr:=fun (o c : Nat) (W : World) => run_arrayAt (P:=Tryz.prog) (w:=W) 179 5 8 (some ⟨b,o,none⟩) 8 c Tryz.underlying179 (Nat.le_refl _)
  go_enter Tryz.func127,Tryz.ntmps127
  go_wp2_with (go_at_call 125;go_must (refine (gulp_k w0 g b m 8 (c0 :: c1 :: c2 :: c3 :: c4 :: c5 :: c6 :: c7 :: r) _ HS.out).mono ?_;rintro e w1 he;obtain ⟨o,c,rfl,h1,h2,h3,h4⟩:=he.full hkl;have H1:=h1.below (h3.bel.mono h3.hg);have k0 : w1.cell? ⟨b,o,none⟩ = some (.int .u8 (c0.toNat : Int)):=H1 0 c0 rfl;have k1 : w1.cell? ⟨b,o + 1,none⟩ = some (.int .u8 (c1.toNat : Int)):=H1 1 c1 rfl;have k2 : w1.cell? ⟨b,o + 2,none⟩ = some (.int .u8 (c2.toNat : Int)):=H1 2 c2 rfl;have k3 : w1.cell? ⟨b,o + 3,none⟩ = some (.int .u8 (c3.toNat : Int)):=H1 3 c3 rfl;have k4 : w1.cell? ⟨b,o + 4,none⟩ = some (.int .u8 (c4.toNat : Int)):=H1 4 c4 rfl;have k5 : w1.cell? ⟨b,o + 5,none⟩ = some (.int .u8 (c5.toNat : Int)):=H1 5 c5 rfl;have k6 : w1.cell? ⟨b,o + 6,none⟩ = some (.int .u8 (c6.toNat : Int)):=H1 6 c6 rfl;have k7 : w1.cell? ⟨b,o + 7,none⟩ = some (.int .u8 (c7.toNat : Int)):=H1 7 c7 rfl;have H3:=Ld h3;have H4:=Ld h4;clear he h1 h3 h4 H1))
  clear k0 k1 k2 k3 k4 k5 k6 k7 harr
  obtain ⟨L,hL⟩ : ∃ L,[c0,c1,c2,c3,c4,c5,c6,c7] = L:=⟨_,rfl⟩
  have hL8 : L.length = 8:=by rw [← hL];rfl
  have HTK:=Ld (show (c0 :: c1 :: c2 :: c3 :: c4 :: c5 :: c6 :: c7 :: r).take 8 = L by rw [← hL];rfl)
  have eL : #[Value.int .u8 (c0.toNat : Int),.int .u8 c1.toNat,.int .u8 c2.toNat,.int .u8 c3.toNat,.int .u8 c4.toNat,.int .u8 c5.toNat,.int .u8 c6.toNat,.int .u8 c7.toNat] = (bts L).toArray:=by rw [← hL];rfl
  rw [eL]
  rw [HTK.out] at HPF
  clear eL hL HTK
  have HL8:=Ld hL8
  go_loopw [22,7] (fun i u wr => ∃ j : Nat,j ≤ 8 ∧ i = .int .i64 j ∧ u = .int .u64 (numB (L.take j) : Nat) ∧ wr = w1.alloc (.cells (bts L).toArray 179)) (fun i _ _ => 8 - (intOf i).toNat)
  case atStart => exact ⟨0,Nat.zero_le _,rfl,rfl,rfl⟩
  case round =>
   obtain ⟨j,hj,rfl,rfl,hwr⟩:=hrel
   subst wr
   by_cases hjn : j < 8
   ·have hjb : j < L.length:=by omega
    have hix:=fun W => idx_at (bts L).toArray .i64 j hjn (.int .u8 (L[j].toNat : Int)) (by simp [bts,List.getElem?_eq_getElem hjb]) W
    have HOB:=Ld (or_byte (numB (L.take j)) L[j] (numB_take_lt L (show j ≤ 7 by omega)))
    clear hL8
    go_wp2
    refine ⟨⟨j + 1,by omega,by go_num,?_,by trivial⟩,by simp [intOf];omega⟩
    rw [HOB.out,numB_take hjb]
   ·have HT:=Ld (show L.take j = L from List.take_of_length_le (by omega))
    rw [HT.out]
    have HUL:=Ld (show numB L < 18446744073709551616 by have:=numB_lt L;rw [HL8.out] at this;exact this)
    obtain ⟨U,hUU⟩ : ∃ U : Nat,numB L = U:=⟨_,rfl⟩
    rw [hUU] at HPF HUL ⊢
    clear hUU hL8 HT HL8
    obtain ⟨Z,hZ⟩ : ∃ Z : Int,(U : Int) = Z:=⟨_,rfl⟩
    rw [hZ]
    have HZ:=Ld hZ
    clear hZ
    have hfrom:=from_call
    obtain ⟨B,hB⟩ : ∃ B : Nat,backU U = B:=⟨_,rfl⟩
    rw [hB] at HPF
    by_cases htop : 9223372036854775808 ≤ U
    ·have hbE : bits BinOp.andNot IntKind.u64 Z 9223372036854775808 = (B : Int):=by rw [← HZ.out,← hB,andNot_top U htop HUL.out,backU,if_pos htop]
     have hdiv : (Z / 9223372036854775808 == 1) = true:=by rw [beq_iff_eq,← HZ.out];have:=HUL.out;omega
     have HBL:=Ld (show B < 18446744073709551616 by rw [← hB,backU,if_pos htop];have:=HUL.out;omega)
     clear htop hB
     go_wp2
     ·have hq:=‹FloatKind.f64.format.order B B = some Ordering.eq›
      go_ret2
      exact float_end HPF.out (by simp [isNan,hq]) HBL.out (H4.out.alloc _) (H3.out.step ((Below.refl _ _).alloc (Nat.le_refl _) _))
     ·have hq:=‹¬FloatKind.f64.format.order B B = some Ordering.eq›
      go_ret2
      exact float_end HPF.out (float_bb hq) HBL.out (H4.out.alloc _) (H3.out.step ((Below.refl _ _).alloc (Nat.le_refl _) _))
    ·have hsg : IntKind.u64.signed = false:=rfl
     have hbE : bits BinOp.xor IntKind.u64 IntKind.u64.max Z = (B : Int):=by rw [← HZ.out,← hB,not_low U HUL.out,backU,if_neg htop]
     have hdiv : (Z / 9223372036854775808 == 1) = false:=by rw [beq_eq_false_iff_ne,← HZ.out];omega
     have HBL:=Ld (show B < 18446744073709551616 by rw [← hB,backU,if_neg htop];omega)
     clear htop hB
     go_wp2
     ·have hq:=‹FloatKind.f64.format.order B B = some Ordering.eq›
      go_ret2
      exact float_end HPF.out (by simp [isNan,hq]) HBL.out (H4.out.alloc _) (H3.out.step ((Below.refl _ _).alloc (Nat.le_refl _) _))
     ·have hq:=‹¬FloatKind.f64.format.order B B = some Ordering.eq›
      go_ret2
      exact float_end HPF.out (float_bb hq) HBL.out (H4.out.alloc _) (H3.out.step ((Below.refl _ _).alloc (Nat.le_refl _) _))
end
section
open Go.RowKit
set_option maxHeartbeats 1000000
set_option maxRecDepth 100000
theorem Kept.young {S T : Nat → Prop} {a b c : World} (h : Kept S a b) (k : Kept T b c) (hT : ∀ j,T j → S j ∨ a.heap.size ≤ j) : Kept S a c :=
 ⟨k.os.trans h.os,k.tape.trans h.tape,k.output.trans h.output,Nat.le_trans h.size k.size,fun i hi hs => (k.block i (by have:=h.size;omega) (fun ht => by
   rcases hT i ht with e | e
   ·exact hs e
   ·omega)).trans (h.block i hi hs)⟩
def srcLen (w : World) (g : Nat) : Nat:=match w.cell? ⟨g,0,none⟩ with | some v => lenOf v | none => 0
theorem Src.len {w0 w : World} {g b m : Nat} {bs : List UInt8} (h : Src w0 g b bs m w) : srcLen w g = bs.length:=by
 obtain ⟨o,c,_,_,hb⟩:=h.ex
 rw [srcLen,(cells2 hb).1.1];rfl
structure TxtAt (w0 w : World) (g b : Nat) (bs : List UInt8) (m : Nat) (v : Value) (acc rest : List UInt8) (W : World) : Prop where
 own : OwnB W w.heap.size v acc
 src : Src w0 g b rest m W
 kept : Kept (fun j => j = g) w W
 lt : g < w.heap.size
 len : acc.length + rest.length ≤ bs.length
 par : parT bs = (parT rest).map fun p => (acc ++ p.1,p.2)
section
variable {w0 w W W' : World} {g b m : Nat} {bs acc rest rest' : List UInt8} {v v' : Value}
theorem TxtAt.size (h : TxtAt w0 w g b bs m v acc rest W) : w.heap.size ≤ W.heap.size:=h.kept.size
theorem TxtAt.gulp (h : TxtAt w0 w g b bs m v acc rest W) (_hs : Src w0 g b rest' m W') (hk : Kept (fun j => j = g) W W') : OwnB W' w.heap.size v acc ∧ Kept (fun j => j = g) w W' :=
 ⟨own_kept h.own hk (fun k e hkg => by have:=h.own.ge k e;have:=h.lt;omega),h.kept.trans hk⟩
theorem TxtAt.put (hown : OwnB W w.heap.size v acc) (hsrc : Src w0 g b rest' m W) (hkept : Kept (fun j => j = g) w W) (hlt : g < w.heap.size) {c : UInt8} (ha : AppEnd W w.heap.size v (acc ++ [c]) v' W')
 (hlen : acc.length + 1 + rest'.length ≤ bs.length) (hpar : parT bs = (parT rest').map fun p => (acc ++ [c] ++ p.1,p.2)) : TxtAt w0 w g b bs m v' (acc ++ [c]) rest' W' :=
 ⟨ha.own,hsrc.kept ha.kept (fun k hk e => by have:=hown.ge k e;omega),hkept.young ha.kept (fun j e => .inr (hown.ge j e)),hlt,by simpa using hlen,hpar⟩
end
theorem map_map' {α β γ : Type} (f : α → β) (g : β → γ) (o : Option α) : (o.map f).map g = o.map fun x => g (f x):=by cases o <;> rfl
theorem parT_c {c : UInt8} (h : c ≠ 0) (r : List UInt8) : parT (c :: r) = (parT r).map fun p => (c :: p.1,p.2):=by rw [parT.eq_def];exact if_pos h
theorem parT_0 : parT [0] = none:=by rw [parT.eq_def];rfl
theorem parT_ff (r : List UInt8) : parT (0 :: 255 :: r) = (parT r).map fun p => (0 :: p.1,p.2):=by rw [parT.eq_def];simp
theorem parT_01 (r : List UInt8) : parT (0 :: 1 :: r) = some ([],r):=by rw [parT.eq_def];simp
theorem parT_bad {d : UInt8} (r : List UInt8) (h1 : d ≠ 255) (h2 : d ≠ 1) : parT (0 :: d :: r) = none:=by rw [parT.eq_def];simp [h1,h2]
theorem u8_ne {c d : UInt8} (h : c ≠ d) : ((c.toNat : Int) == (d.toNat : Int)) = false:=by
 rw [beq_eq_false_iff_ne]
 intro e
 exact h (UInt8.toNat_inj.1 (by omega))
theorem text_c (w0 : World) (g b m : Nat) (bs : List UInt8) (w : World) (h : Src w0 g b bs m w) (hb : Hid (bs.length ≤ 4096)) :
 Calls Tryz.prog 128 #[.pointer (some ⟨g,0,none⟩)] w fun e w' => ∃ t : ByteArray,t.size ≤ 4096 ∧ e = .returned (.tuple #[.string t,.bool (parT bs).isSome]) ∧ Kept (fun j => j = g) w w' ∧
  ∀ p,parT bs = some p → t = ⟨p.1.toArray⟩ ∧ Src w0 g b p.2 m w':=by
 have HT0:=Ld (show TxtAt w0 w g b bs m (.slice none 0 0) [] bs w from ⟨.nil _ _,h,.refl _ _,h.lt,by simp,by cases parT bs <;> simp⟩)
 clear h
 go_enter Tryz.func128,Tryz.ntmps128
 go_wp2
 go_loopw [4] (fun v wr => ∃ (acc rest : List UInt8),Hid (TxtAt w0 w g b bs m v acc rest wr)) (fun _ wr => srcLen wr g)
 case atStart => exact ⟨_,_,HT0⟩
 case round =>
  obtain ⟨acc,rest,hT⟩:=hrel
  cases rest with
  | nil =>
    have HP:=Ld (show parT bs = none by rw [hT.out.par,parT];rfl)
    go_wp2_with (go_at_call 125;go_must (refine (gulp_k w0 g b m 1 [] _ hT.out.src).mono ?_;rintro e w1 he;obtain ⟨rfl,rfl⟩:=he.short (by decide);clear he))
    go_ret2
    exact ⟨⟨#[]⟩,by decide,by rw [HP.out];rfl,hT.out.kept,fun p hp => by rw [HP.out] at hp;cases hp⟩
  | cons x r =>
    have hlenT:=Ld hT.out.src.len
    have hlT:=Ld hT.out.len
    by_cases hx : x = 0
    ·subst hx
     cases r with
     | nil =>
       have HP:=Ld (show parT bs = none by rw [hT.out.par,parT_0];rfl)
       go_wp2_with (first
        | (go_at_call 125;refine (gulp_k w0 g b m 1 [] _ H3.out).mono ?_;rintro e w2 he;obtain ⟨rfl,rfl⟩:=he.short (by decide);clear he)
        | (go_at_call 125;go_must (refine (gulp_k w0 g b m 1 [0] _ hT.out.src).mono ?_;rintro e w1 he;obtain ⟨o,c,rfl,h1,h2,h3,h4⟩:=he.full (by simp);have k0 : w1.cell? ⟨b,o,none⟩ = some (.int .u8 0):=(h1.below (h3.bel.mono h3.hg)) 0 0 rfl;have HG:=Ld (hT.out.gulp h3 h4);have H3:=Ld h3;clear he h1 h3 h4)))
       go_ret2
       exact ⟨⟨#[]⟩,by decide,by rw [HP.out];rfl,HG.out.2,fun p hp => by rw [HP.out] at hp;cases hp⟩
     | cons y r =>
       by_cases hf : y = 255
       ·subst hf
        have HPN:=Ld (show parT bs = (parT r).map (fun p => (acc ++ [0] ++ p.1,p.2)) by rw [hT.out.par,parT_ff,map_map'];simp)
        go_wp2_with (first
         | (go_at_call 125;refine (gulp_k w0 g b m 1 (255 :: r) _ H3.out).mono ?_;rintro e w2 he;obtain ⟨o2,c2,rfl,h1,h2,h3,h4⟩:=he.full (by simp);have k1 : w2.cell? ⟨b,o2,none⟩ = some (.int .u8 255):=(h1.below (h3.bel.mono h3.hg)) 0 255 rfl;have HG2:=Ld (And.intro (own_kept HG.out.1 h4 (fun k e hkg => by have:=HG.out.1.ge k e;have:=hT.out.lt;omega)) (HG.out.2.trans h4));have H4:=Ld h3;clear he h1 h3 h4)
         | (go_at_call 125;go_must (refine (gulp_k w0 g b m 1 (0 :: 255 :: r) _ hT.out.src).mono ?_;rintro e w1 he;obtain ⟨o,c,rfl,h1,h2,h3,h4⟩:=he.full (by simp);have k0 : w1.cell? ⟨b,o,none⟩ = some (.int .u8 0):=(h1.below (h3.bel.mono h3.hg)) 0 0 rfl;have HG:=Ld (hT.out.gulp h3 h4);have H3:=Ld h3;clear he h1 h3 h4))
         | (at_builtin;go_must (refine wpList_put (m:=1) rfl (.tmp 38) (.tmp 39) rfl (AppEnd.refl HG2.out.1) rfl _ (show _ = (bts [0]).toArray from rfl) (g:=w2.heap.size) rfl rfl rfl (by simp) (by have:=hlT.out;have:=hb.out;omega) HG2.out.2.size ?_;intro v2 w3 hA2;have HT2:=Ld (TxtAt.put HG2.out.1 H4.out HG2.out.2 hT.out.lt hA2 (by have:=hlT.out;simp only [List.length_cons] at this;simp;omega) HPN.out);clear hA2)))
        refine ⟨⟨_,_,HT2⟩,?_⟩
        rw [hlenT.out,HT2.out.src.len]
        simp
        omega
       ·by_cases h1 : y = 1
        ·subst h1
         have HP:=Ld (show parT bs = some (acc,r) by rw [hT.out.par,parT_01];simp)
         go_wp2_with (first
          | (go_at_call 125;refine (gulp_k w0 g b m 1 (1 :: r) _ H3.out).mono ?_;rintro e w2 he;obtain ⟨o2,c2,rfl,h1,h2,h3,h4⟩:=he.full (by simp);have k1 : w2.cell? ⟨b,o2,none⟩ = some (.int .u8 1):=(h1.below (h3.bel.mono h3.hg)) 0 1 rfl;have HG2:=Ld (And.intro (own_kept HG.out.1 h4 (fun k e hkg => by have:=HG.out.1.ge k e;have:=hT.out.lt;omega)) (HG.out.2.trans h4));have hcv:=run_back HG2.out.1;have H4:=Ld h3;clear he h1 h3 h4)
          | (go_at_call 125;go_must (refine (gulp_k w0 g b m 1 (0 :: 1 :: r) _ hT.out.src).mono ?_;rintro e w1 he;obtain ⟨o,c,rfl,h1,h2,h3,h4⟩:=he.full (by simp);have k0 : w1.cell? ⟨b,o,none⟩ = some (.int .u8 0):=(h1.below (h3.bel.mono h3.hg)) 0 0 rfl;have HG:=Ld (hT.out.gulp h3 h4);have H3:=Ld h3;clear he h1 h3 h4)))
         go_ret2
         exact ⟨⟨acc.toArray⟩,by have:=hlT.out;have:=hb.out;simp [ByteArray.size];omega,by rw [HP.out];rfl,HG2.out.2,fun p hp => by rw [HP.out] at hp;cases hp;exact ⟨rfl,H4.out⟩⟩
        ·have hf' : ((y.toNat : Int) == 255) = false:=u8_ne hf
         have h1' : ((y.toNat : Int) == 1) = false:=u8_ne h1
         have HP:=Ld (show parT bs = none by rw [hT.out.par,parT_bad r hf h1];rfl)
         go_wp2_with (first
          | (go_at_call 125;refine (gulp_k w0 g b m 1 (y :: r) _ H3.out).mono ?_;rintro e w2 he;obtain ⟨o2,c2,rfl,h1,h2,h3,h4⟩:=he.full (by simp);have k1 : w2.cell? ⟨b,o2,none⟩ = some (.int .u8 (y.toNat : Int)):=(h1.below (h3.bel.mono h3.hg)) 0 y rfl;have HG2:=Ld (HG.out.2.trans h4);clear he h1 h3 h4)
          | (go_at_call 125;go_must (refine (gulp_k w0 g b m 1 (0 :: y :: r) _ hT.out.src).mono ?_;rintro e w1 he;obtain ⟨o,c,rfl,h1,h2,h3,h4⟩:=he.full (by simp);have k0 : w1.cell? ⟨b,o,none⟩ = some (.int .u8 0):=(h1.below (h3.bel.mono h3.hg)) 0 0 rfl;have HG:=Ld (hT.out.gulp h3 h4);have H3:=Ld h3;clear he h1 h3 h4)))
         go_ret2
         exact ⟨⟨#[]⟩,by decide,by rw [HP.out];rfl,HG2.out,fun p hp => by rw [HP.out] at hp;cases hp⟩
    ·have hne : ((x.toNat : Int) == 0) = false:=u8_ne hx
     have hne2 : ((x.toNat : Int) != 0) = true:=by rw [bne,hne];rfl
     have HPN:=Ld (show parT bs = (parT r).map (fun p => (acc ++ [x] ++ p.1,p.2)) by rw [hT.out.par,parT_c hx,map_map'];simp)
     go_wp2_with (first
      | (go_at_call 125;go_must (refine (gulp_k w0 g b m 1 (x :: r) _ hT.out.src).mono ?_;rintro e w1 he;obtain ⟨o,c,rfl,h1,h2,h3,h4⟩:=he.full (by simp);have k0 : w1.cell? ⟨b,o,none⟩ = some (.int .u8 (x.toNat : Int)):=(h1.below (h3.bel.mono h3.hg)) 0 x rfl;have HG:=Ld (hT.out.gulp h3 h4);have H3:=Ld h3;clear he h1 h3 h4))
      | (at_builtin;go_must (refine wpList_put (m:=1) rfl (.tmp 19) (.tmp 23) rfl (AppEnd.refl HG.out.1) rfl _ (show _ = (bts [x]).toArray from rfl) (g:=w1.heap.size) rfl rfl rfl (by simp) (by have:=hlT.out;have:=hb.out;omega) HG.out.2.size ?_;intro v2 w2 hA2;have HT2:=Ld (TxtAt.put HG.out.1 H3.out HG.out.2 hT.out.lt hA2 (by have:=hlT.out;simp only [List.length_cons] at this;simp;omega) HPN.out);clear hA2)))
     refine ⟨⟨_,_,HT2⟩,?_⟩
     rw [hlenT.out,HT2.out.src.len]
     simp
end
section
open Go.RowKit
set_option maxHeartbeats 1000000
set_option maxRecDepth 100000
theorem parT_len : ∀ (bs : List UInt8) (p : List UInt8 × List UInt8),parT bs = some p → p.2.length < bs.length ∧ p.1.length < bs.length:=by
 intro bs
 induction hn : bs.length using Nat.strongRecOn generalizing bs with
 | _ n ih =>
 intro p h
 subst hn
 match bs,h with
 | [],h => rw [parT.eq_def] at h;cases h
 | c :: r,h =>
   by_cases hc : c = 0
   ·subst hc
    match r,h with
    | [],h => rw [parT_0] at h;cases h
    | d :: r,h =>
      by_cases h1 : d = 255
      ·subst h1
       rw [parT_ff] at h
       obtain ⟨q,hq,rfl⟩:=Option.map_eq_some_iff.1 h
       have:=ih r.length (by simp only [List.length_cons];omega) r rfl q hq
       simp only [List.length_cons];omega
      ·by_cases h2 : d = 1
       ·subst h2
        rw [parT_01] at h
        cases h
        simp only [List.length_cons,List.length_nil];omega
       ·rw [parT_bad r h1 h2] at h;cases h
   ·rw [parT_c hc] at h
    obtain ⟨q,hq,rfl⟩:=Option.map_eq_some_iff.1 h
    have:=ih r.length (by simp only [List.length_cons];omega) r rfl q hq
    simp only [List.length_cons];omega
theorem parI_cons (f d m : Nat) (t : UInt8) (r : List UInt8) : parI (f + 1) d m (t :: r) = if m = 64 then none else if t = 1 then some (.mk 1 false 0 0 ⟨#[]⟩ [],r,m + 1)
 else if t = 2 ∨ t = 3 then some (.mk 2 (t == 3) 0 0 ⟨#[]⟩ [],r,m + 1)
 else if 12 ≤ t.toNat ∧ t.toNat ≤ 28 then (parW ((t.toNat : Int) - 20) r).map fun p => (.mk 3 false p.1 0 ⟨#[]⟩ [],p.2,m + 1)
 else if t = 32 then (parF r).map fun p => (.mk 4 false 0 p.1 ⟨#[]⟩ [],p.2,m + 1)
 else if t = 36 then (parT r).map fun p => (.mk 5 false 0 0 ⟨p.1.toArray⟩ [],p.2,m + 1)
 else if t = 40 ∧ d < 8 then
  match parL f (d + 1) (m + 1) r with
  | some (l,_ :: r,m) => some (.mk 6 false 0 0 ⟨#[]⟩ l,r,m)
  | _ => none
 else none:=by rw [parI];rfl
theorem parI_zero (d m : Nat) (bs : List UInt8) : parI 0 d m bs = none:=by rw [parI.eq_def]
theorem parL_zero' (d m : Nat) (bs : List UInt8) : parL 0 d m bs = none:=by rw [parL.eq_def]
theorem parL_nil (f d m : Nat) : parL (f + 1) d m [] = some ([],[],m):=by rw [parL]
theorem parL_zero (f d m : Nat) (r : List UInt8) : parL (f + 1) d m (0 :: r) = some ([],0 :: r,m):=by rw [parL]
theorem parL_cons (f d m : Nat) (t : UInt8) (r : List UInt8) (h : t ≠ 0) : parL (f + 1) d m (t :: r) = match parI f d m (t :: r) with
 | none => none
 | some (x,r,m) => (parL f d m r).map fun p => (x :: p.1,p.2):=by
 rw [parL]
 ·rfl
 ·intro h2;cases h2
 ·intro r h2;cases h2;exact h rfl
theorem par_count : ∀ (f : Nat),(∀ d m bs p,parI f d m bs = some p → m < p.2.2 ∧ p.2.1.length < bs.length) ∧ (∀ d m bs p,parL f d m bs = some p → m ≤ p.2.2 ∧ p.2.1.length ≤ bs.length):=by
 intro f
 induction f with
 | zero => exact ⟨fun d m bs p h => (by rw [parI_zero] at h;cases h),fun d m bs p h => (by rw [parL_zero'] at h;cases h)⟩
 | succ f ih =>
   refine ⟨fun d m bs p h => ?_,fun d m bs p h => ?_⟩
   ·cases bs with
    | nil => rw [parI] at h;cases h
    | cons t r =>
      rw [parI_cons] at h
      split at h;· cases h
      split at h;· cases h;simp
      split at h;· cases h;simp
      split at h
      ·obtain ⟨q,hq,rfl⟩:=Option.map_eq_some_iff.1 h
       rw [parW] at hq
       split at hq;· cases hq
       split at hq
       ·cases hq;simp;omega
       ·cases hq
      split at h
      ·obtain ⟨q,hq,rfl⟩:=Option.map_eq_some_iff.1 h
       by_cases h8 : 8 ≤ r.length
       ·rw [parF_eq r h8] at hq
        generalize backU (numB (r.take 8)) = B at hq
        split at hq
        ·cases hq;simp;omega
        ·cases hq
       ·rw [parF,if_pos (by omega)] at hq;cases hq
      split at h
      ·obtain ⟨q,hq,rfl⟩:=Option.map_eq_some_iff.1 h
       have:=parT_len r q hq
       simp;omega
      split at h
      ·split at h
       ·rename_i l x r' m' hp
        cases h
        have:=ih.2 _ _ _ _ hp
        simp only [List.length_cons] at this ⊢
        omega
       ·cases h
      ·cases h
   ·cases bs with
    | nil => rw [parL_nil] at h;cases h;simp
    | cons t r =>
      by_cases ht : t = 0
      ·subst ht;rw [parL_zero] at h;cases h;simp
      ·rw [parL_cons _ _ _ _ _ ht] at h
       split at h
       ·cases h
       ·rename_i x r' m' hp
        obtain ⟨q,hq,rfl⟩:=Option.map_eq_some_iff.1 h
        have h1:=ih.1 _ _ _ _ hp
        have h2:=ih.2 _ _ _ _ hq
        simp only at h1 h2 ⊢
        omega
end
end Go.Proofs.YtonjgedhmmnolaaGreatDoor
