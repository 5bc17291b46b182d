import Derived.Test.YtonjgedhmmnolaaGreatDoorZZ1
import Derived.Test.YtonjgedhmmnolaaGreatDoorZ6
namespace Go.Proofs.YtonjgedhmmnolaaGreatDoor
section
set_option maxRecDepth 100000
set_option maxHeartbeats 1000000
mutual
def goodI : ItemD → Prop
 | .mk _ _ n f _ l => (-9223372036854775808 ≤ n ∧ n ≤ 9223372036854775807) ∧ f < 18446744073709551616 ∧ (isNan f = false ∨ f = 9221120237041090560) ∧ goodL l
def goodL : List ItemD → Prop
 | [] => True
 | x :: l => goodI x ∧ goodL l
end
theorem goodI_mk (k : Int) (b : Bool) (n : Int) (f : Nat) (t : ByteArray) (l : List ItemD) : goodI (.mk k b n f t l) ↔ (-9223372036854775808 ≤ n ∧ n ≤ 9223372036854775807) ∧ f < 18446744073709551616 ∧ (isNan f = false ∨ f = 9221120237041090560) ∧ goodL l:=by rw [goodI]
theorem goodL_nil : goodL []:=by rw [goodL];trivial
theorem goodL_cons (x : ItemD) (l : List ItemD) : goodL (x :: l) ↔ goodI x ∧ goodL l:=by rw [goodL]
theorem okI_mk (k : Int) (b : Bool) (n : Int) (f : Nat) (t : ByteArray) (l : List ItemD) : okI (.mk k b n f t l) = (mayN k b n f t l.length && okL l):=by rw [okI]
theorem walkI_mk (k : Int) (b : Bool) (n : Int) (f : Nat) (t : ByteArray) (l : List ItemD) (d m : Nat) : walkI (.mk k b n f t l) d m = if 64 ≤ m then (m,31) else if !mayN k b n f t l.length then (m,30) else if k = 6 ∧ 8 ≤ d then (m,32) else walkL l (d + 1) (m + 1):=by rw [walkI]
theorem packI_mk (k : Int) (b : Bool) (n : Int) (f : Nat) (t : ByteArray) (l : List ItemD) : packI (.mk k b n f t l) = if k = 1 then [1] else if k = 2 then [if b then 3 else 2]
 else if k = 3 then (if n < 0 then UInt8.ofNat (20 - needN n.natAbs) :: bigB ((n - 1) % 18446744073709551616).toNat (needN n.natAbs) else UInt8.ofNat (20 + needN n.natAbs) :: bigB n.toNat (needN n.natAbs))
 else if k = 4 then 32 :: bigB (keyF f).toNat 8 else if k = 5 then 36 :: (esc t.data.toList ++ [0,1]) else if k = 6 then 40 :: (packL l ++ [0]) else []:=by rw [packI]
theorem nan_zero : isNan 0 = false:=by decide +kernel
theorem leaf_ok {k : Int} {b : Bool} {n : Int} {f : Nat} {t : ByteArray} (hm : mayN k b n f t 0 = true) (hk : k ≠ 6) (hn : -9223372036854775808 ≤ n ∧ n ≤ 9223372036854775807) (hf : f < 18446744073709551616) (hc : isNan f = false ∨ f = 9221120237041090560) {d m : Nat} (h : m ≠ 64) (h64 : m ≤ 64) :
 okI (.mk k b n f t []) = true ∧ goodI (.mk k b n f t []) ∧ walkI (.mk k b n f t []) d m = (m + 1,0) ∧ m + 1 ≤ 64:=by
 refine ⟨by rw [okI_mk,List.length_nil,hm,okL_nil];rfl,(goodI_mk ..).2 ⟨hn,hf,hc,goodL_nil⟩,?_,by omega⟩
 rw [walkI_mk,if_neg (by omega),List.length_nil,hm,if_neg (by decide),if_neg (by rintro ⟨h1,_⟩;exact hk h1),walkL_nil]
theorem may3 (n : Int) : mayN 3 false n 0 ⟨#[]⟩ 0 = true:=by
 unfold mayN cleanN
 simp [ByteArray.size]
theorem may4 (f : Nat) : mayN 4 false 0 f ⟨#[]⟩ 0 = true:=by
 unfold mayN cleanN
 simp [ByteArray.size]
theorem may5 (t : ByteArray) : mayN 5 false 0 0 t 0 = true:=by
 unfold mayN cleanN
 simp
theorem may6 (n : Nat) : mayN 6 false 0 0 ⟨#[]⟩ n = true:=by
 unfold mayN cleanN
 simp [ByteArray.size]
theorem ofNat_u8 {t : UInt8} {n : Nat} (h : t.toNat = n) : UInt8.ofNat n = t:=by subst h;exact UInt8.ofNat_toNat
theorem par_sound : ∀ F,(∀ d m bs x r m',parI F d m bs = some (x,r,m') → m ≤ 64 → bs = packI x ++ r ∧ okI x = true ∧ goodI x ∧ walkI x d m = (m',0) ∧ m' ≤ 64) ∧
 (∀ d m bs l r m',parL F d m bs = some (l,r,m') → m ≤ 64 → bs = packL l ++ r ∧ okL l = true ∧ goodL l ∧ walkL l d m = (m',0) ∧ m' ≤ 64 ∧ (∀ y r',r = y :: r' → y = 0)):=by
 intro F
 induction F with
 | zero => exact ⟨fun d m bs x r m' h => (by rw [parI_zero] at h;cases h),fun d m bs l r m' h => (by rw [parL_zero'] at h;cases h)⟩
 | succ F ih =>
   refine ⟨fun d m bs x r m' h hm => ?_,fun d m bs l r m' h hm => ?_⟩
   ·cases bs with
    | nil => rw [parI] at h;cases h
    | cons t s =>
      rw [parI_cons] at h
      split at h;· cases h
      rename_i h64
      split at h
      ·rename_i ht;cases h;subst ht
       exact ⟨by rw [packI_mk];rfl,leaf_ok rfl (by decide) (by decide) (by decide) (.inl nan_zero) h64 hm⟩
      split at h
      ·rename_i ht;cases h
       rcases ht with ht | ht
       ·subst ht
        exact ⟨by rw [packI_mk];rfl,leaf_ok rfl (by decide) (by decide) (by decide) (.inl nan_zero) h64 hm⟩
       ·subst ht
        exact ⟨by rw [packI_mk];rfl,leaf_ok rfl (by decide) (by decide) (by decide) (.inl nan_zero) h64 hm⟩
      split at h
      ·rename_i ht
       obtain ⟨⟨v,s'⟩,hq,h⟩:=Option.map_eq_some_iff.1 h
       cases h
       rw [parW_eq] at hq
       split at hq;· cases hq
       rename_i hlen
       split at hq
       ·rename_i hv
        obtain ⟨hv1,hv2⟩:=hv
        cases hq
        have hl : (s.take ((t.toNat : Int) - 20).natAbs).length = ((t.toNat : Int) - 20).natAbs:=by rw [List.length_take];omega
        obtain ⟨k,hk⟩ : ∃ k,((t.toNat : Int) - 20).natAbs = k:=⟨_,rfl⟩
        rw [hk] at hl hv1 hv2 hlen
        rw [hk]
        have hk8 : k ≤ 8:=by omega
        obtain ⟨v,hvv⟩ : ∃ v,valW ((t.toNat : Int) - 20) (numB (s.take k)) = v:=⟨_,rfl⟩
        rw [hvv] at hv1 hv2
        rw [hvv]
        by_cases hneg : (t.toNat : Int) - 20 < 0
        ·have e : (t.toNat : Int) - 20 = -(k : Int):=by omega
         rw [e] at hvv
         obtain ⟨b1,b2⟩:=valW_neg_inv hl (by omega) hk8 hvv (hv2.1 hneg)
         have hvn:=hv2.1 hneg
         refine ⟨?_,leaf_ok (may3 v) (by decide) ⟨b1,by omega⟩ (by decide) (.inl nan_zero) h64 hm⟩
         rw [packI_mk,if_neg (by decide),if_neg (by decide),if_pos rfl,if_pos hvn,hv1,b2,ofNat_u8 (show t.toNat = 20 - k by omega),List.cons_append,List.take_append_drop]
        ·have e : (t.toNat : Int) - 20 = (k : Int):=by omega
         rw [e] at hvv
         have hvn : ¬ v < 0:=fun h => hneg (hv2.2 h)
         obtain ⟨_,b1,b2⟩:=valW_pos_inv hl hk8 hvv (by omega)
         refine ⟨?_,leaf_ok (may3 v) (by decide) ⟨by omega,b1⟩ (by decide) (.inl nan_zero) h64 hm⟩
         rw [packI_mk,if_neg (by decide),if_neg (by decide),if_pos rfl,if_neg hvn,hv1,b2,ofNat_u8 (show t.toNat = 20 + k by omega),List.cons_append,List.take_append_drop]
       ·cases hq
      split at h
      ·rename_i ht;subst ht
       obtain ⟨⟨f,s'⟩,hq,h⟩:=Option.map_eq_some_iff.1 h
       cases h
       by_cases h8 : 8 ≤ s.length
       ·rw [parF_eq s h8] at hq
        have hu:=numB_lt8 (s.take 8) (by rw [List.length_take];omega)
        have hb:=big_num (s.take 8)
        rw [List.length_take,Nat.min_eq_left h8] at hb
        obtain ⟨u,hue⟩ : ∃ u,numB (s.take 8) = u:=⟨_,rfl⟩
        rw [hue] at hq hu hb
        split at hq
        ·rename_i hc
         cases hq
         have hfl : backU u < 18446744073709551616:=fltU_lt hu
         refine ⟨?_,leaf_ok (may4 _) (by decide) (by decide) hfl hc h64 hm⟩
         rw [packI_mk,if_neg (by decide),if_neg (by decide),if_neg (by decide),if_pos rfl,keyF_nat hfl,show keyU (backU u) = u from key_flt hu hc,hb,List.cons_append,List.take_append_drop]
        ·cases hq
       ·rw [parF,if_pos (by omega)] at hq;cases hq
      split at h
      ·rename_i ht;subst ht
       obtain ⟨⟨tx,s'⟩,hq,h⟩:=Option.map_eq_some_iff.1 h
       cases h
       refine ⟨?_,leaf_ok (may5 _) (by decide) (by decide) (by decide) (.inl nan_zero) h64 hm⟩
       have:=parT_inv s _ hq
       rw [packI_mk,if_neg (by decide),if_neg (by decide),if_neg (by decide),if_neg (by decide),if_pos rfl,this]
       simp
      split at h
      ·rename_i ht
       obtain ⟨ht,hd⟩:=ht
       subst ht
       split at h
       ·rename_i l y s' m1 hp
        cases h
        obtain ⟨i1,i2,i3,i4,i5,i6⟩:=ih.2 _ _ _ _ _ _ hp (by omega)
        have hz : y = 0:=i6 y _ rfl
        subst hz
        refine ⟨?_,by rw [okI_mk,may6,i2];rfl,(goodI_mk ..).2 ⟨by decide,by decide,.inl nan_zero,i3⟩,?_,i5⟩
        ·rw [packI_mk,if_neg (by decide),if_neg (by decide),if_neg (by decide),if_neg (by decide),if_neg (by decide),if_pos rfl,i1]
         simp
        ·rw [walkI_mk,if_neg (by omega),may6,if_neg (by decide),if_neg (by omega),i4]
       ·cases h
      ·cases h
   ·cases bs with
    | nil => rw [parL_nil] at h;cases h;exact ⟨by rw [packL_nil];rfl,okL_nil,goodL_nil,walkL_nil _ _,hm,fun y r' e => by cases e⟩
    | cons t s =>
      by_cases ht : t = 0
      ·subst ht;rw [parL_zero] at h;cases h;exact ⟨by rw [packL_nil];rfl,okL_nil,goodL_nil,walkL_nil _ _,hm,fun y r' e => by cases e;rfl⟩
      ·rw [parL_cons _ _ _ _ _ ht] at h
       split at h
       ·cases h
       ·rename_i x r1 m1 hp
        obtain ⟨⟨l',r',m''⟩,hq,h⟩:=Option.map_eq_some_iff.1 h
        cases h
        obtain ⟨i1,i2,i3,i4,i5⟩:=ih.1 _ _ _ _ _ _ hp hm
        obtain ⟨j1,j2,j3,j4,j5,j6⟩:=ih.2 _ _ _ _ _ _ hq i5
        refine ⟨by rw [i1,j1,packL_cons,List.append_assoc],by rw [okL_cons,i2,j2];rfl,(goodL_cons ..).2 ⟨i3,j3⟩,?_,j5,j6⟩
        rw [walkL_cons,i4,if_pos rfl,j4]
end
end Go.Proofs.YtonjgedhmmnolaaGreatDoor
