import Derived.Test.YtonjgedhmmnolaaGreatDoorZZ2
import Derived.Test.YtonjgedhmmnolaaGreatDoorZ6
import Derived.Test.YtonjgedhmmnolaaGreatDoorZY7
namespace Go.Proofs.YtonjgedhmmnolaaGreatDoor
section
set_option maxRecDepth 100000
set_option maxHeartbeats 1000000
theorem bytes_nil {t : ByteArray} (h : t.size = 0) : t = ⟨#[]⟩:=by
 apply ByteArray.ext
 exact Array.eq_empty_of_size_eq_zero h
theorem bytes_eta (t : ByteArray) : (⟨t.data.toList.toArray⟩ : ByteArray) = t:=by cases t;simp
theorem may_parts {k : Int} {b : Bool} {n : Int} {f : Nat} {t : ByteArray} {z : Nat} (h : mayN k b n f t z = true) :
 (1 ≤ k ∧ k ≤ 6) ∧ (k ≠ 2 → b = false) ∧ (k ≠ 3 → n = 0) ∧ (k ≠ 4 → f = 0) ∧ (k ≠ 5 → t = ⟨#[]⟩) ∧ (k ≠ 6 → z = 0):=by
 simp only [mayN,cleanN,Bool.and_eq_true,Bool.or_eq_true,beq_iff_eq,decide_eq_true_eq,Bool.not_eq_true'] at h
 obtain ⟨⟨h1,h2⟩,⟨⟨⟨h3,h4⟩,h5⟩,h6⟩,h7⟩:=h
 exact ⟨⟨h1,h2⟩,fun h => h3.resolve_left h,fun h => h4.resolve_left h,fun h => h5.resolve_left h,fun h => bytes_nil (h6.resolve_left h),fun h => h7.resolve_left h⟩
theorem walk_parts {k : Int} {b : Bool} {n : Int} {f : Nat} {t : ByteArray} {l : List ItemD} {d m m' : Nat} (h : walkI (.mk k b n f t l) d m = (m',0)) :
 m < 64 ∧ mayN k b n f t l.length = true ∧ ¬ (k = 6 ∧ 8 ≤ d) ∧ walkL l (d + 1) (m + 1) = (m',0):=by
 rw [walkI_mk] at h
 split at h;· cases h
 split at h;· cases h
 split at h;· cases h
 rename_i h1 h2 h3
 exact ⟨by omega,by simpa using h2,h3,h⟩
theorem pack_ne {x : ItemD} (h : okI x = true) : ∃ c r,packI x = c :: r ∧ c ≠ 0:=by
 cases x with | mk k b n f t l =>
 rw [okI_mk,Bool.and_eq_true] at h
 obtain ⟨hk,_⟩:=may_parts h.1
 rw [packI_mk]
 have hn:=needN_le n.natAbs
 have hnn : ∀ m : Nat,0 < m → m < 255 → UInt8.ofNat m ≠ 0:=fun m h0 hm e => by
  have:=congrArg UInt8.toNat e
  rw [UInt8.toNat_ofNat'] at this
  simp at this;omega
 rcases (show k = 1 ∨ k = 2 ∨ k = 3 ∨ k = 4 ∨ k = 5 ∨ k = 6 by omega) with h | h | h | h | h | h
 ·exact ⟨1,[],by simp [h],by decide⟩
 ·exact ⟨_,[],by simp only [h];rfl,by split <;> decide⟩
 ·simp only [h]
  by_cases hn0 : n < 0
  ·exact ⟨_,_,by simp only [hn0];rfl,hnn _ (by omega) (by omega)⟩
  ·exact ⟨_,_,by simp only [hn0];rfl,hnn _ (by omega) (by omega)⟩
 ·exact ⟨32,_,by simp [h];rfl,by decide⟩
 ·exact ⟨36,_,by simp [h];rfl,by decide⟩
 ·exact ⟨40,_,by simp [h];rfl,by decide⟩
theorem pack_pos {x : ItemD} (h : okI x = true) : 1 ≤ (packI x).length:=by
 obtain ⟨c,r,h,_⟩:=pack_ne h
 rw [h];simp
theorem parW_pack {n : Int} (hn : -9223372036854775808 ≤ n ∧ n ≤ 9223372036854775807) (r : List UInt8) :
 (n < 0 → parW (-(needN n.natAbs : Int)) (bigB ((n - 1) % 18446744073709551616).toNat (needN n.natAbs) ++ r) = some (n,r)) ∧ (¬ n < 0 → parW (needN n.natAbs : Int) (bigB n.toNat (needN n.natAbs) ++ r) = some (n,r)):=by
 obtain ⟨k,hk⟩ : ∃ k,needN n.natAbs = k:=⟨_,rfl⟩
 rw [hk]
 constructor
 ·intro h
  have hv:=valW_neg h hn.1 hk
  have hl:=bigB_len ((n - 1) % 18446744073709551616).toNat k
  rw [parW_eq,Int.natAbs_neg,Int.natAbs_natCast,if_neg (by rw [List.length_append,hl];omega),List.take_append_of_le_length (by omega),List.take_of_length_le (by omega),hv,hk,
   if_pos ⟨rfl,by
    have : 0 < k:=by
     rcases Nat.eq_zero_or_pos k with h0 | h0
     ·subst h0;have:=needN_lt n.natAbs (by omega);rw [hk] at this;simp at this;omega
     ·exact h0
    omega⟩,List.drop_left' hl]
 ·intro h
  have hv:=valW_pos (by omega) hn.2 hk
  have hl:=bigB_len n.toNat k
  rw [parW_eq,Int.natAbs_natCast,if_neg (by rw [List.length_append,hl];omega),List.take_append_of_le_length (by omega),List.take_of_length_le (by omega),hv,hk,if_pos ⟨rfl,by omega⟩,List.drop_left' hl]
theorem redW_pack {n : Int} (hn : -9223372036854775808 ≤ n ∧ n ≤ 9223372036854775807) (r : List UInt8) :
 (n < 0 → redW (-(needN n.natAbs : Int)) (bigB ((n - 1) % 18446744073709551616).toNat (needN n.natAbs) ++ r) = some (.mk 3 false n 0 ⟨#[]⟩ [],r)) ∧ (¬ n < 0 → redW (needN n.natAbs : Int) (bigB n.toNat (needN n.natAbs) ++ r) = some (.mk 3 false n 0 ⟨#[]⟩ [],r)):=by
 obtain ⟨k,hk⟩ : ∃ k,needN n.natAbs = k:=⟨_,rfl⟩
 rw [hk]
 constructor
 ·intro h
  have hv:=valW_neg h hn.1 hk
  have hl:=bigB_len ((n - 1) % 18446744073709551616).toNat k
  rw [redW,Int.natAbs_neg,Int.natAbs_natCast,if_neg (by rw [List.length_append,hl];omega),List.take_append_of_le_length (by omega),List.take_of_length_le (by omega),hv,List.drop_left' hl]
 ·intro h
  have hv:=valW_pos (by omega) hn.2 hk
  have hl:=bigB_len n.toNat k
  rw [redW,Int.natAbs_natCast,if_neg (by rw [List.length_append,hl];omega),List.take_append_of_le_length (by omega),List.take_of_length_le (by omega),hv,List.drop_left' hl]
theorem flt_pack {f : Nat} (hf : f < 18446744073709551616) (hc : isNan f = false ∨ f = 9221120237041090560) (r : List UInt8) : fltU (numB ((bigB (keyF f).toNat 8 ++ r).take 8)) = f ∧ (bigB (keyF f).toNat 8 ++ r).drop 8 = r ∧ 8 ≤ (bigB (keyF f).toNat 8 ++ r).length:=by
 have hl:=bigB_len (keyF f).toNat 8
 refine ⟨?_,List.drop_left' hl,by rw [List.length_append,hl];omega⟩
 rw [List.take_append_of_le_length (by omega),List.take_of_length_le (by omega),numB_big,keyF_nat hf,Nat.mod_eq_of_lt (keyU_lt hf),flt_key hf hc]
theorem u8_of_toNat {n : Nat} (h : n < 256) : (UInt8.ofNat n).toNat = n:=by rw [UInt8.toNat_ofNat'];omega
end
section
set_option maxRecDepth 100000
set_option maxHeartbeats 1000000
theorem num_byte {n : Int} : (n < 0 → (UInt8.ofNat (20 - needN n.natAbs)).toNat = 20 - needN n.natAbs) ∧ (UInt8.ofNat (20 + needN n.natAbs)).toNat = 20 + needN n.natAbs:=by
 have:=needN_le n.natAbs
 exact ⟨fun _ => u8_of_toNat (by omega),u8_of_toNat (by omega)⟩
theorem mid_ne {t : UInt8} (h : 12 ≤ t.toNat ∧ t.toNat ≤ 28) : t ≠ 1 ∧ t ≠ 2 ∧ t ≠ 3:=by
 refine ⟨?_,?_,?_⟩ <;> (intro e;subst e;have h1:=h.1;revert h1;decide)
mutual
theorem parI_pack : ∀ (x : ItemD) (d m m' F : Nat) (r : List UInt8),okI x = true → goodI x → walkI x d m = (m',0) → 2 * (packI x).length ≤ F → parI F d m (packI x ++ r) = some (x,r,m')
 | .mk k b n f t l,d,m,m',F,r,hok,hg,hw,hF => by
   obtain ⟨h64,hmay,h6d,hwl⟩:=walk_parts hw
   obtain ⟨hk,hb,hn,hf,ht,hz⟩:=may_parts hmay
   obtain ⟨gn,gf,gc,gl⟩:=(goodI_mk ..).1 hg
   have hpos:=pack_pos hok
   rw [okI_mk,Bool.and_eq_true] at hok
   obtain ⟨F,rfl⟩ : ∃ F',F = F' + 1:=⟨F - 1,by omega⟩
   rcases (show k = 1 ∨ k = 2 ∨ k = 3 ∨ k = 4 ∨ k = 5 ∨ k = 6 by omega) with rfl | rfl | rfl | rfl | rfl | rfl
   ·obtain rfl:=hb (by decide);obtain rfl:=hn (by decide);obtain rfl:=hf (by decide);obtain rfl:=ht (by decide)
    obtain rfl:=List.eq_nil_of_length_eq_zero (hz (by decide))
    rw [walkL_nil] at hwl;cases hwl
    rw [packI_mk,if_pos rfl,List.cons_append,List.nil_append,parI_cons,if_neg (by omega),if_pos rfl]
   ·obtain rfl:=hn (by decide);obtain rfl:=hf (by decide);obtain rfl:=ht (by decide)
    obtain rfl:=List.eq_nil_of_length_eq_zero (hz (by decide))
    rw [walkL_nil] at hwl;cases hwl
    rw [packI_mk,if_neg (by decide),if_pos rfl,List.cons_append,List.nil_append,parI_cons,if_neg (by omega)]
    cases b
    ·rw [show (if false = true then (3 : UInt8) else 2) = 2 from rfl,if_neg (by decide),if_pos (.inl rfl)];rfl
    ·rw [show (if true = true then (3 : UInt8) else 2) = 3 from rfl,if_neg (by decide),if_pos (.inr rfl)];rfl
   ·obtain rfl:=hb (by decide);obtain rfl:=hf (by decide);obtain rfl:=ht (by decide)
    obtain rfl:=List.eq_nil_of_length_eq_zero (hz (by decide))
    rw [walkL_nil] at hwl;cases hwl
    have hb8:=needN_le n.natAbs
    obtain ⟨p1,p2⟩:=parW_pack gn r
    obtain ⟨q1,q2⟩:=num_byte (n:=n)
    rw [packI_mk,if_neg (by decide),if_neg (by decide),if_pos rfl]
    by_cases h0 : n < 0
    ·have hm : 12 ≤ (UInt8.ofNat (20 - needN n.natAbs)).toNat ∧ (UInt8.ofNat (20 - needN n.natAbs)).toNat ≤ 28:=by rw [q1 h0];omega
     obtain ⟨m1,m2,m3⟩:=mid_ne hm
     rw [if_pos h0,List.cons_append,parI_cons,if_neg (by omega),if_neg m1,if_neg (by rintro (h | h);exact m2 h;exact m3 h),if_pos hm,q1 h0,
      show (((20 - needN n.natAbs : Nat) : Int) - 20) = -(needN n.natAbs : Int) by omega,p1 h0]
     rfl
    ·have hm : 12 ≤ (UInt8.ofNat (20 + needN n.natAbs)).toNat ∧ (UInt8.ofNat (20 + needN n.natAbs)).toNat ≤ 28:=by rw [q2];omega
     obtain ⟨m1,m2,m3⟩:=mid_ne hm
     rw [if_neg h0,List.cons_append,parI_cons,if_neg (by omega),if_neg m1,if_neg (by rintro (h | h);exact m2 h;exact m3 h),if_pos hm,q2,
      show (((20 + needN n.natAbs : Nat) : Int) - 20) = (needN n.natAbs : Int) by omega,p2 h0]
     rfl
   ·obtain rfl:=hb (by decide);obtain rfl:=hn (by decide);obtain rfl:=ht (by decide)
    obtain rfl:=List.eq_nil_of_length_eq_zero (hz (by decide))
    rw [walkL_nil] at hwl;cases hwl
    obtain ⟨f1,f2,f3⟩:=flt_pack gf gc r
    rw [packI_mk,if_neg (by decide),if_neg (by decide),if_neg (by decide),if_pos rfl,List.cons_append,parI_cons,if_neg (by omega),if_neg (by decide),if_neg (by decide),if_neg (by decide),if_pos rfl,parF_eq _ f3,
     show backU (numB ((bigB (keyF f).toNat 8 ++ r).take 8)) = f from f1,if_pos gc,f2]
    rfl
   ·obtain rfl:=hb (by decide);obtain rfl:=hn (by decide);obtain rfl:=hf (by decide)
    obtain rfl:=List.eq_nil_of_length_eq_zero (hz (by decide))
    rw [walkL_nil] at hwl;cases hwl
    rw [packI_mk,if_neg (by decide),if_neg (by decide),if_neg (by decide),if_neg (by decide),if_pos rfl,List.cons_append,parI_cons,if_neg (by omega),if_neg (by decide),if_neg (by decide),if_neg (by decide),if_neg (by decide),if_pos rfl,
     show esc t.data.toList ++ [0,1] ++ r = esc t.data.toList ++ 0 :: 1 :: r by simp,parT_esc]
    simp only [Option.map_some,bytes_eta]
   ·obtain rfl:=hb (by decide);obtain rfl:=hn (by decide);obtain rfl:=hf (by decide);obtain rfl:=ht (by decide)
    have hp : packI (.mk 6 false 0 0 ⟨#[]⟩ l) = 40 :: (packL l ++ [0]):=by
     rw [packI_mk,if_neg (by decide),if_neg (by decide),if_neg (by decide),if_neg (by decide),if_neg (by decide),if_pos rfl]
    rw [hp] at hF ⊢
    simp only [List.length_cons,List.length_append,List.length_nil] at hF
    have ih:=parL_pack l (d + 1) (m + 1) m' F (0 :: r) hok.2 gl hwl (by omega) (fun y r' e => by cases e;rfl)
    rw [List.cons_append,parI_cons,if_neg (by omega),if_neg (by decide),if_neg (by decide),if_neg (by decide),if_neg (by decide),if_neg (by decide),if_pos ⟨rfl,by omega⟩,
     show packL l ++ [0] ++ r = packL l ++ 0 :: r by simp,ih]
theorem parL_pack : ∀ (l : List ItemD) (d m m' F : Nat) (r : List UInt8),okL l = true → goodL l → walkL l d m = (m',0) → 2 * (packL l).length + 1 ≤ F → (∀ y r',r = y :: r' → y = 0) → parL F d m (packL l ++ r) = some (l,r,m')
 | [],d,m,m',F,r,hok,hg,hw,hF,hr => by
   rw [walkL_nil] at hw;cases hw
   obtain ⟨F,rfl⟩ : ∃ F',F = F' + 1:=⟨F - 1,by omega⟩
   rw [packL_nil,List.nil_append]
   cases r with
   | nil => rw [parL_nil]
   | cons y r' => obtain rfl:=hr y r' rfl;rw [parL_zero]
 | x :: l,d,m,m',F,r,hok,hg,hw,hF,hr => by
   rw [okL_cons,Bool.and_eq_true] at hok
   obtain ⟨g1,g2⟩:=(goodL_cons ..).1 hg
   rw [walkL_cons] at hw
   split at hw
   ·rename_i h0
    obtain ⟨F,rfl⟩ : ∃ F',F = F' + 1:=⟨F - 1,by omega⟩
    rw [packL_cons,List.length_append] at hF
    have hpos:=pack_pos hok.1
    obtain ⟨c,u,hc,hc0⟩:=pack_ne hok.1
    have i1:=parI_pack x d m (walkI x d m).1 F (packL l ++ r) hok.1 g1 (Prod.ext rfl h0) (by omega)
    have i2:=parL_pack l d (walkI x d m).1 m' F r hok.2 g2 hw (by omega) hr
    rw [packL_cons,List.append_assoc]
    rw [hc] at i1 ⊢
    rw [List.cons_append] at i1 ⊢
    rw [parL_cons _ _ _ _ _ hc0,i1]
    simp only [i2]
    rfl
   ·rename_i h0;rw [hw] at h0;exact absurd rfl h0
end
mutual
theorem redI_pack : ∀ (x : ItemD) (d m m' q : Nat) (r : List UInt8),okI x = true → goodI x → walkI x d m = (m',0) → d + q = 9 → d ≤ 8 → redI q (packI x ++ r) = some (x,r)
 | .mk k b n f t l,d,m,m',q,r,hok,hg,hw,hq,hd8 => by
   obtain ⟨h64,hmay,h6d,hwl⟩:=walk_parts hw
   obtain ⟨hk,hb,hn,hf,ht,hz⟩:=may_parts hmay
   obtain ⟨gn,gf,gc,gl⟩:=(goodI_mk ..).1 hg
   rw [okI_mk,Bool.and_eq_true] at hok
   obtain ⟨q,rfl⟩ : ∃ q',q = q' + 1:=⟨q - 1,by omega⟩
   rcases (show k = 1 ∨ k = 2 ∨ k = 3 ∨ k = 4 ∨ k = 5 ∨ k = 6 by omega) with rfl | rfl | rfl | rfl | rfl | rfl
   ·obtain rfl:=hb (by decide);obtain rfl:=hn (by decide);obtain rfl:=hf (by decide);obtain rfl:=ht (by decide)
    obtain rfl:=List.eq_nil_of_length_eq_zero (hz (by decide))
    rw [packI_mk,if_pos rfl,List.cons_append,List.nil_append,redI,if_pos rfl]
   ·obtain rfl:=hn (by decide);obtain rfl:=hf (by decide);obtain rfl:=ht (by decide)
    obtain rfl:=List.eq_nil_of_length_eq_zero (hz (by decide))
    rw [packI_mk,if_neg (by decide),if_pos rfl,List.cons_append,List.nil_append,redI]
    cases b
    ·rw [show (if false = true then (3 : UInt8) else 2) = 2 from rfl,if_neg (by decide),if_pos rfl]
    ·rw [show (if true = true then (3 : UInt8) else 2) = 3 from rfl,if_neg (by decide),if_neg (by decide),if_pos rfl]
   ·obtain rfl:=hb (by decide);obtain rfl:=hf (by decide);obtain rfl:=ht (by decide)
    obtain rfl:=List.eq_nil_of_length_eq_zero (hz (by decide))
    have hb8:=needN_le n.natAbs
    obtain ⟨p1,p2⟩:=redW_pack gn r
    obtain ⟨q1,q2⟩:=num_byte (n:=n)
    rw [packI_mk,if_neg (by decide),if_neg (by decide),if_pos rfl]
    by_cases h0 : n < 0
    ·have hm : 12 ≤ (UInt8.ofNat (20 - needN n.natAbs)).toNat ∧ (UInt8.ofNat (20 - needN n.natAbs)).toNat ≤ 28:=by rw [q1 h0];omega
     obtain ⟨m1,m2,m3⟩:=mid_ne hm
     rw [if_pos h0,List.cons_append,redI,if_neg m1,if_neg m2,if_neg m3,if_pos hm,q1 h0,show (((20 - needN n.natAbs : Nat) : Int) - 20) = -(needN n.natAbs : Int) by omega,p1 h0]
    ·have hm : 12 ≤ (UInt8.ofNat (20 + needN n.natAbs)).toNat ∧ (UInt8.ofNat (20 + needN n.natAbs)).toNat ≤ 28:=by rw [q2];omega
     obtain ⟨m1,m2,m3⟩:=mid_ne hm
     rw [if_neg h0,List.cons_append,redI,if_neg m1,if_neg m2,if_neg m3,if_pos hm,q2,show (((20 + needN n.natAbs : Nat) : Int) - 20) = (needN n.natAbs : Int) by omega,p2 h0]
   ·obtain rfl:=hb (by decide);obtain rfl:=hn (by decide);obtain rfl:=ht (by decide)
    obtain rfl:=List.eq_nil_of_length_eq_zero (hz (by decide))
    obtain ⟨f1,f2,f3⟩:=flt_pack gf gc r
    rw [packI_mk,if_neg (by decide),if_neg (by decide),if_neg (by decide),if_pos rfl,List.cons_append,redI,if_neg (by decide),if_neg (by decide),if_neg (by decide),if_neg (by decide),if_pos ⟨rfl,f3⟩,f1,f2]
   ·obtain rfl:=hb (by decide);obtain rfl:=hn (by decide);obtain rfl:=hf (by decide)
    obtain rfl:=List.eq_nil_of_length_eq_zero (hz (by decide))
    rw [packI_mk,if_neg (by decide),if_neg (by decide),if_neg (by decide),if_neg (by decide),if_pos rfl,List.cons_append,redI,if_neg (by decide),if_neg (by decide),if_neg (by decide),if_neg (by decide),if_neg (by rintro ⟨h,_⟩;exact absurd h (by decide)),if_pos rfl,
     show esc t.data.toList ++ [0,1] ++ r = esc t.data.toList ++ 0 :: 1 :: r by simp,texI,texR_esc]
    simp only [Option.map_some,bytes_eta]
   ·obtain rfl:=hb (by decide);obtain rfl:=hn (by decide);obtain rfl:=hf (by decide);obtain rfl:=ht (by decide)
    have hp : packI (.mk 6 false 0 0 ⟨#[]⟩ l) = 40 :: (packL l ++ [0]):=by
     rw [packI_mk,if_neg (by decide),if_neg (by decide),if_neg (by decide),if_neg (by decide),if_neg (by decide),if_pos rfl]
    rw [hp,List.cons_append,redI,if_neg (by decide),if_neg (by decide),if_neg (by decide),if_neg (by decide),if_neg (by rintro ⟨h,_⟩;exact absurd h (by decide)),if_neg (by decide),if_pos rfl,
     show packL l ++ [0] ++ r = packL l ++ 0 :: r by simp]
    have ih:=redM_pack l (d + 1) (m + 1) m' q ((packL l ++ 0 :: r).length + 1) r hok.2 gl hwl (by omega) (by omega) (by simp;omega)
    rw [ih]
    rfl
theorem redM_pack : ∀ (l : List ItemD) (d m m' q n : Nat) (r : List UInt8),okL l = true → goodL l → walkL l d m = (m',0) → d + q = 9 → d ≤ 8 → (packL l).length < n → redM (redI q) n (packL l ++ 0 :: r) = some (l,r)
 | [],d,m,m',q,n,r,hok,hg,hw,hq,hd8,hn => by
   obtain ⟨n,rfl⟩ : ∃ n',n = n' + 1:=⟨n - 1,by omega⟩
   rw [packL_nil,List.nil_append,redM,if_pos rfl]
 | x :: l,d,m,m',q,n,r,hok,hg,hw,hq,hd8,hn => by
   rw [okL_cons,Bool.and_eq_true] at hok
   obtain ⟨g1,g2⟩:=(goodL_cons ..).1 hg
   rw [walkL_cons] at hw
   split at hw
   ·rename_i h0
    obtain ⟨n,rfl⟩ : ∃ n',n = n' + 1:=⟨n - 1,by omega⟩
    rw [packL_cons,List.length_append] at hn
    have hpos:=pack_pos hok.1
    obtain ⟨c,u,hc,hc0⟩:=pack_ne hok.1
    have i1:=redI_pack x d m (walkI x d m).1 q (packL l ++ 0 :: r) hok.1 g1 (Prod.ext rfl h0) hq hd8
    have i2:=redM_pack l d (walkI x d m).1 m' q n r hok.2 g2 hw hq hd8 (by omega)
    rw [packL_cons,List.append_assoc]
    rw [hc] at i1 ⊢
    rw [List.cons_append] at i1 ⊢
    rw [redM,if_neg hc0,i1]
    simp only [i2]
    rfl
   ·rename_i h0;rw [hw] at h0;exact absurd rfl h0
end
end
section
set_option maxRecDepth 100000
set_option maxHeartbeats 1000000
mutual
def toV : ItemD → VI
 | .mk k b n f t l => .mk k b n f t none 0 (toVL l)
def toVL : List ItemD → List VI
 | [] => []
 | x :: l => toV x :: toVL l
end
mutual
theorem toV_data : ∀ x : ItemD,(toV x).data = x
 | .mk k b n f t l => by rw [toV,VI.data,toVL_data l]
theorem toVL_data : ∀ l : List ItemD,VI.dataL (toVL l) = l
 | [] => by rw [toVL,VI.dataL]
 | x :: l => by rw [toVL,VI.dataL,toV_data x,toVL_data l]
end
theorem packL_len (l : List ItemD) (h : okL l = true) : (packL l).length = sizeL l:=by
 have:=pack_len _ (toVL l) (Nat.le_refl _) (by rw [toVL_data];exact h)
 rwa [toVL_data] at this
theorem chkL_ok {l : List ItemD} (h : chkL l = 0) : okL l = true ∧ sizeL l ≤ 4096 ∧ (walkL l 0 0).2 = 0:=by
 have:=chk_ok (toVL l) (by rw [toVL_data];exact h)
 rwa [toVL_data] at this
theorem chkL_mk {l : List ItemD} (h1 : sizeL l ≤ 4096) (h2 : (walkL l 0 0).2 = 0) : chkL l = 0:=by
 unfold chkL
 rw [if_neg (by rw [h2];decide),if_neg (by omega)]
theorem top_sound : ∀ (n m : Nat) (bs : List UInt8) (l : List ItemD),parTop n m bs = some l → m ≤ 64 → bs = packL l ∧ okL l = true ∧ goodL l ∧ (walkL l 0 m).2 = 0
 | 0,m,bs,l,h,_ => by rw [parTop] at h;cases h
 | n + 1,m,[],l,h,_ => by rw [parTop_nil] at h;cases h;exact ⟨by rw [packL_nil],okL_nil,goodL_nil,by rw [walkL_nil]⟩
 | n + 1,m,t :: r,l,h,hm => by
   rw [parTop_cons] at h
   split at h
   ·cases h
   ·rename_i x r1 m1 hp
    obtain ⟨l',hq,rfl⟩:=Option.map_eq_some_iff.1 h
    obtain ⟨i1,i2,i3,i4,i5⟩:=(par_sound _).1 _ _ _ _ _ _ hp hm
    obtain ⟨j1,j2,j3,j4⟩:=top_sound n m1 r1 l' hq i5
    refine ⟨by rw [i1,j1,packL_cons],by rw [okL_cons,i2,j2];rfl,(goodL_cons ..).2 ⟨i3,j3⟩,?_⟩
    rw [walkL_cons,i4,if_pos rfl,j4]
theorem top_pack : ∀ (l : List ItemD) (n m : Nat),okL l = true → goodL l → (walkL l 0 m).2 = 0 → (packL l).length < n → parTop n m (packL l) = some l
 | [],n,m,_,_,_,hn => by
   obtain ⟨n,rfl⟩ : ∃ n',n = n' + 1:=⟨n - 1,by omega⟩
   rw [packL_nil,parTop_nil]
 | x :: l,n,m,hok,hg,hw,hn => by
   rw [okL_cons,Bool.and_eq_true] at hok
   obtain ⟨g1,g2⟩:=(goodL_cons ..).1 hg
   rw [walkL_cons] at hw
   split at hw
   ·rename_i h0
    obtain ⟨n,rfl⟩ : ∃ n',n = n' + 1:=⟨n - 1,by omega⟩
    rw [packL_cons,List.length_append] at hn
    have hpos:=pack_pos hok.1
    obtain ⟨c,u,hc,hc0⟩:=pack_ne hok.1
    have i1:=parI_pack x 0 m (walkI x 0 m).1 (2 * (packI x ++ packL l).length + 1) (packL l) hok.1 g1 (Prod.ext rfl h0) (by rw [List.length_append];omega)
    have i2:=top_pack l n (walkI x 0 m).1 hok.2 g2 hw (by omega)
    rw [packL_cons]
    rw [hc] at i1 ⊢
    rw [List.cons_append] at i1 ⊢
    rw [parTop_cons,i1]
    simp only [i2]
    rfl
   ·rename_i h0;exact absurd hw h0
theorem unpB_some {bs : List UInt8} {l : List ItemD} : unpB bs = some l ↔ bs.length ≤ 4096 ∧ chkL l = 0 ∧ goodL l ∧ packL l = bs:=by
 constructor
 ·intro h
  unfold unpB at h
  split at h;· cases h
  obtain ⟨h1,h2,h3,h4⟩:=top_sound _ _ _ _ h (by decide)
  exact ⟨by omega,chkL_mk (by rw [← packL_len l h2,← h1];omega) h4,h3,h1.symm⟩
 ·rintro ⟨h1,h2,h3,h4⟩
  obtain ⟨k1,k2,k3⟩:=chkL_ok h2
  unfold unpB
  rw [if_neg (by omega),← h4]
  exact top_pack l _ 0 k1 h3 k3 (by omega)
def redTop : Nat → List UInt8 → Option (List ItemD)
 | 0,_ => none
 | _ + 1,[] => some []
 | n + 1,c :: s => match redI 9 (c :: s) with
   | none => none
   | some p => (redTop n p.2).map (p.1 :: ·)
theorem redTop_pack : ∀ (l : List ItemD) (n m : Nat),okL l = true → goodL l → (walkL l 0 m).2 = 0 → (packL l).length < n → redTop n (packL l) = some l
 | [],n,m,_,_,_,hn => by
   obtain ⟨n,rfl⟩ : ∃ n',n = n' + 1:=⟨n - 1,by omega⟩
   rw [packL_nil,redTop]
 | x :: l,n,m,hok,hg,hw,hn => by
   rw [okL_cons,Bool.and_eq_true] at hok
   obtain ⟨g1,g2⟩:=(goodL_cons ..).1 hg
   rw [walkL_cons] at hw
   split at hw
   ·rename_i h0
    obtain ⟨n,rfl⟩ : ∃ n',n = n' + 1:=⟨n - 1,by omega⟩
    rw [packL_cons,List.length_append] at hn
    have hpos:=pack_pos hok.1
    obtain ⟨c,u,hc,hc0⟩:=pack_ne hok.1
    have i1:=redI_pack x 0 m (walkI x 0 m).1 9 (packL l) hok.1 g1 (Prod.ext rfl h0) rfl (by decide)
    have i2:=redTop_pack l n (walkI x 0 m).1 hok.2 g2 hw (by omega)
    rw [packL_cons]
    rw [hc] at i1 ⊢
    rw [List.cons_append] at i1 ⊢
    rw [redTop,i1]
    simp only [i2]
    rfl
   ·rename_i h0;exact absurd hw h0
mutual
def canI : ItemD → ItemD
 | .mk k b n f t l => .mk k b n (if isNan f = true then 9221120237041090560 else f) t (canL l)
def canL : List ItemD → List ItemD
 | [] => []
 | x :: l => canI x :: canL l
end
mutual
def rngI : ItemD → Prop
 | .mk _ _ n f _ l => (-9223372036854775808 ≤ n ∧ n ≤ 9223372036854775807) ∧ f < 18446744073709551616 ∧ rngL l
def rngL : List ItemD → Prop
 | [] => True
 | x :: l => rngI x ∧ rngL l
end
theorem can_nan : isNan 9221120237041090560 = true:=by decide +kernel
theorem can_key (f : Nat) : keyF (if isNan f = true then 9221120237041090560 else f) = keyF f:=by
 have h : bitsF (if isNan f = true then 9221120237041090560 else f) = bitsF f:=by
  by_cases h : isNan f = true
  ·rw [if_pos h];unfold bitsF;rw [can_nan,h];rfl
  ·rw [if_neg h]
 unfold keyF
 rw [h]
theorem can_may (k : Int) (b : Bool) (n : Int) (f : Nat) (t : ByteArray) (z : Nat) : mayN k b n (if isNan f = true then 9221120237041090560 else f) t z = mayN k b n f t z:=by
 by_cases h : isNan f = true
 ·rw [if_pos h]
  have hf : (f == 0) = false:=by
   rw [beq_eq_false_iff_ne];intro e;subst e;rw [nan_zero] at h;cases h
  unfold mayN cleanN
  rw [hf]
  rfl
 ·rw [if_neg h]
theorem canL_len : ∀ l : List ItemD,(canL l).length = l.length
 | [] => by rw [canL]
 | x :: l => by rw [canL,List.length_cons,List.length_cons,canL_len l]
mutual
theorem canI_all : ∀ x : ItemD,packI (canI x) = packI x ∧ okI (canI x) = okI x ∧ sizeI (canI x) = sizeI x ∧ (∀ d m,walkI (canI x) d m = walkI x d m) ∧ (rngI x → goodI (canI x))
 | .mk k b n f t l => by
   obtain ⟨h1,h2,h3,h4,h5⟩:=canL_all l
   rw [canI]
   refine ⟨by rw [packI_mk,packI_mk,can_key,h1],by rw [okI_mk,okI_mk,canL_len,can_may,h2],by rw [sizeI,sizeI,h3],fun d m => by rw [walkI_mk,walkI_mk,canL_len,can_may,h4],fun h => ?_⟩
   rw [rngI] at h
   refine (goodI_mk ..).2 ⟨h.1,?_,?_,h5 h.2.2⟩
   ·split
    ·decide
    ·exact h.2.1
   ·by_cases hf : isNan f = true
    ·rw [if_pos hf];exact .inr rfl
    ·rw [if_neg hf];exact .inl (by simpa using hf)
theorem canL_all : ∀ l : List ItemD,packL (canL l) = packL l ∧ okL (canL l) = okL l ∧ sizeL (canL l) = sizeL l ∧ (∀ d m,walkL (canL l) d m = walkL l d m) ∧ (rngL l → goodL (canL l))
 | [] => by rw [canL];exact ⟨rfl,rfl,rfl,fun _ _ => rfl,fun _ => goodL_nil⟩
 | x :: l => by
   obtain ⟨h1,h2,h3,h4,h5⟩:=canL_all l
   obtain ⟨i1,i2,i3,i4,i5⟩:=canI_all x
   rw [canL]
   refine ⟨by rw [packL_cons,packL_cons,i1,h1],by rw [okL_cons,okL_cons,i2,h2],by rw [sizeL,sizeL,i3,h3],fun d m => by rw [walkL_cons,walkL_cons,i4,h4],fun h => ?_⟩
   rw [rngL] at h
   exact (goodL_cons ..).2 ⟨i5 h.1,h5 h.2⟩
end
theorem unp_ref {bs : List UInt8} (hlen : bs.length ≤ 4096) : (redTop (bs.length + 1) bs = none → unpB bs = none) ∧
 (∀ l,redTop (bs.length + 1) bs = some l → rngL l → unpB bs = if chkL l = 0 ∧ packL l = bs then some l else none):=by
 have key : ∀ l,unpB bs = some l → redTop (bs.length + 1) bs = some l:=fun l h => by
  obtain ⟨_,h2,h3,h4⟩:=unpB_some.1 h
  obtain ⟨k1,_,k3⟩:=chkL_ok h2
  have:=redTop_pack l (bs.length + 1) 0 k1 h3 k3 (by rw [h4];omega)
  rwa [h4] at this
 constructor
 ·intro h
  cases hu : unpB bs with
  | none => rfl
  | some l => rw [key l hu] at h;cases h
 ·intro l h hr
  by_cases hc : chkL l = 0 ∧ packL l = bs
  ·rw [if_pos hc]
   obtain ⟨a1,a2,a3,a4,a5⟩:=canL_all l
   obtain ⟨k1,k2,k3⟩:=chkL_ok hc.1
   have hu : unpB bs = some (canL l):=unpB_some.2 ⟨hlen,chkL_mk (by rw [a3];exact k2) (by rw [a4];exact k3),a5 hr,by rw [a1];exact hc.2⟩
   have:=key _ hu
   rw [h] at this
   exact hu.trans this.symm
  ·rw [if_neg hc]
   cases hu : unpB bs with
   | none => rfl
   | some l' =>
     have:=key l' hu
     rw [h] at this
     cases this
     obtain ⟨_,h2,_,h4⟩:=unpB_some.1 hu
     exact absurd ⟨h2,h4⟩ hc
end
end Go.Proofs.YtonjgedhmmnolaaGreatDoor
