import Derived.Test.YtonjgedhmmnolaaGreatDoorZY6
import Derived.Test.YtonjgedhmmnolaaGreatDoorZ5b
namespace Go.Proofs.YtonjgedhmmnolaaGreatDoor
section
set_option maxRecDepth 100000
theorem numB_cons (c : UInt8) (l : List UInt8) : numB (c :: l) = c.toNat * 256 ^ l.length + numB l:=by
 suffices ∀ (l : List UInt8) (u : Nat),l.foldl (fun u c => 256 * u + c.toNat) u = u * 256 ^ l.length + l.foldl (fun u c => 256 * u + c.toNat) 0 by
  simp only [numB,List.foldl_cons]
  rw [this]
  simp
 intro l
 induction l with
 | nil => intro u;simp
 | cons d l ih =>
   intro u
   rw [List.foldl_cons,List.foldl_cons,ih,ih (256 * 0 + d.toNat),List.length_cons,Nat.pow_succ]
   simp only [Nat.mul_zero,Nat.zero_add]
   rw [Nat.add_mul,Nat.mul_comm 256 u,Nat.mul_assoc,Nat.mul_comm 256 (256 ^ l.length),Nat.add_assoc]
theorem numB_big (u : Nat) : ∀ n,numB (bigB u n) = u % 256 ^ n
 | 0 => by simp [bigB,numB,Nat.mod_one]
 | n + 1 => by
   have h:=Nat.mod_mul (x:=u) (a:=256 ^ n) (b:=256)
   rw [bigB,numB_cons,bigB_len,numB_big u n,UInt8.toNat_ofNat',show (256 : Nat) ^ (n + 1) = 256 ^ n * 256 from Nat.pow_succ 256 n,h,show (2 : Nat) ^ 8 = 256 from rfl,Nat.mul_comm (256 ^ n),Nat.add_comm]
theorem bigB_drop (a b : Nat) : ∀ (n k : Nat),n ≤ k → bigB (a * 256 ^ k + b) n = bigB b n
 | 0,_,_ => rfl
 | n + 1,k,h => by
   rw [bigB,bigB,bigB_drop a b n k (by omega)]
   congr 1
   have hk : 256 ^ k = 256 ^ n * (256 * 256 ^ (k - n - 1)):=by
    rw [← Nat.pow_succ',← Nat.pow_add];congr 1;omega
   have e : (a * 256 ^ k + b) / 256 ^ n = b / 256 ^ n + 256 * (a * 256 ^ (k - n - 1)):=by
    rw [hk,show a * (256 ^ n * (256 * 256 ^ (k - n - 1))) + b = b + 256 ^ n * (256 * (a * 256 ^ (k - n - 1))) by
     rw [Nat.add_comm];congr 1;simp only [Nat.mul_left_comm],Nat.add_mul_div_left _ _ (Nat.pow_pos (by decide))]
   rw [e]
   apply UInt8.toNat_inj.1
   rw [UInt8.toNat_ofNat',UInt8.toNat_ofNat']
   omega
theorem big_num : ∀ l : List UInt8,bigB (numB l) l.length = l
 | [] => rfl
 | c :: l => by
   rw [numB_cons,List.length_cons,bigB,bigB_drop _ _ _ _ (Nat.le_refl _),big_num l]
   congr 1
   have:=numB_lt l
   rw [Nat.mul_comm,Nat.mul_add_div (Nat.pow_pos (by decide)),Nat.div_eq_of_lt this,Nat.add_zero]
   exact UInt8.ofNat_toNat
theorem valW_pos {n : Int} {k : Nat} (h0 : 0 ≤ n) (hn : n ≤ 9223372036854775807) (hk : needN n.natAbs = k) : valW (k : Int) (numB (bigB n.toNat k)) = n:=by
 have hlt:=needN_lt n.natAbs (by omega)
 rw [hk] at hlt
 have e : numB (bigB n.toNat k) = n.toNat:=by rw [numB_big,Nat.mod_eq_of_lt (by omega)]
 rw [e,valW,if_neg (by omega),IntWalk.i64_in _ (by omega)]
 omega
theorem valW_neg {n : Int} {k : Nat} (h0 : n < 0) (hn : -9223372036854775808 ≤ n) (hk : needN n.natAbs = k) : valW (-(k : Int)) (numB (bigB ((n - 1) % 18446744073709551616).toNat k)) = n:=by
 have hlt:=needN_lt n.natAbs (by omega)
 have hle:=needN_le n.natAbs
 rw [hk] at hlt hle
 have hk0 : 0 < k:=by
  rcases Nat.eq_zero_or_pos k with h | h
  ·subst h;simp at hlt;omega
  ·exact h
 rw [numB_big,valW,if_pos (by omega),Int.natAbs_neg,Int.natAbs_natCast]
 have hpow : (256 : Nat) ^ k ∣ 18446744073709551616:=⟨256 ^ (8 - k),by rw [← Nat.pow_add,show k + (8 - k) = 8 by omega]⟩
 have hp : (0 : Nat) < 256 ^ k:=Nat.pow_pos (by decide)
 have hcast : ((256 : Int) ^ k) = ((256 ^ k : Nat) : Int):=by simp
 rw [hcast]
 obtain ⟨M,hM⟩ : ∃ M,256 ^ k = M:=⟨_,rfl⟩
 rw [hM] at hlt hpow hp ⊢
 obtain ⟨q,hq⟩:=hpow
 have e : ((n - 1) % 18446744073709551616).toNat % M = (n - 1 + M).toNat:=by
  have h1 : ((n - 1) % 18446744073709551616).toNat = (n - 1 + 18446744073709551616).toNat:=by omega
  have hq1 : 1 ≤ q:=by rcases Nat.eq_zero_or_pos q with h | h;(subst h;simp at hq);exact h
  have h2 : (n - 1 + 18446744073709551616).toNat = (n - 1 + M).toNat + M * (q - 1):=by
   have h3 : M * q = M + M * (q - 1):=by conv => lhs;rw [show q = 1 + (q - 1) by omega,Nat.mul_add,Nat.mul_one]
   omega
  rw [h1,h2,Nat.add_mul_mod_self_left,Nat.mod_eq_of_lt (by omega)]
 rw [e,IntWalk.i64_in _ (by omega)]
 omega
theorem valW_pos_inv {bs : List UInt8} {k : Nat} (hl : bs.length = k) (hk8 : k ≤ 8) {v : Int} (hv : valW (k : Int) (numB bs) = v) (hs : 0 ≤ v) : 0 ≤ v ∧ v ≤ 9223372036854775807 ∧ bigB v.toNat k = bs:=by
 have hu:=numB_lt bs
 rw [hl] at hu
 have hu8 : numB bs < 18446744073709551616:=Nat.lt_of_lt_of_le hu (show 256 ^ k ≤ 256 ^ 8 from Nat.pow_le_pow_right (by decide) hk8)
 rw [valW,if_neg (by omega),IntKind.wrap_i64] at hv
 (try unfold wrap64 at hv)
 have e : v = numB bs:=by omega
 refine ⟨hs,by omega,?_⟩
 rw [e,Int.toNat_natCast,← hl]
 exact big_num bs
theorem valW_neg_inv {bs : List UInt8} {k : Nat} (hl : bs.length = k) (hk0 : 0 < k) (hk8 : k ≤ 8) {v : Int} (hv : valW (-(k : Int)) (numB bs) = v) (hs : v < 0) :
 -9223372036854775808 ≤ v ∧ bigB ((v - 1) % 18446744073709551616).toNat k = bs:=by
 have hu:=numB_lt bs
 rw [hl] at hu
 have hcast : ((256 : Int) ^ k) = ((256 ^ k : Nat) : Int):=by simp
 have hM8 : 256 ^ k ≤ 18446744073709551616:=Nat.pow_le_pow_right (by decide) hk8
 have hp : (0 : Nat) < 256 ^ k:=Nat.pow_pos (by decide)
 have hpow : (256 : Nat) ^ k ∣ 18446744073709551616:=⟨256 ^ (8 - k),by rw [← Nat.pow_add,show k + (8 - k) = 8 by omega]⟩
 rw [valW,if_pos (by omega),Int.natAbs_neg,Int.natAbs_natCast,hcast,IntKind.wrap_i64] at hv
 (try unfold wrap64 at hv)
 have hb:=bigB_drop
 obtain ⟨M,hM⟩ : ∃ M,256 ^ k = M:=⟨_,rfl⟩
 rw [hM] at hu hv hM8 hp hpow
 obtain ⟨q,hq⟩:=hpow
 have e : v = (numB bs : Int) + 1 - M:=by omega
 refine ⟨by omega,?_⟩
 have hq1 : 1 ≤ q:=by rcases Nat.eq_zero_or_pos q with h | h;(subst h;simp at hq);exact h
 have h3 : M * q = M + M * (q - 1):=by conv => lhs;rw [show q = 1 + (q - 1) by omega,Nat.mul_add,Nat.mul_one]
 have h1 : ((v - 1) % 18446744073709551616).toNat = (q - 1) * M + numB bs:=by
  rw [e,Nat.mul_comm (q - 1) M];omega
 rw [h1,← hM,hb _ _ _ _ (Nat.le_refl _),← hl]
 exact big_num bs
theorem flt_key {f : Nat} (hf : f < 18446744073709551616) (hc : isNan f = false ∨ f = 9221120237041090560) : fltU (keyU f) = f:=by
 have hb : bitsF f = f:=by
  unfold bitsF
  split
  ·rename_i h
   rcases hc with h1 | h1
   ·rw [h1] at h;cases h
   ·exact h1.symm
  ·rfl
 unfold keyU fltU
 rw [hb]
 split <;> split <;> omega
theorem key_flt {u : Nat} (hu : u < 18446744073709551616) (hc : isNan (fltU u) = false ∨ fltU u = 9221120237041090560) : keyU (fltU u) = u:=by
 have hb : bitsF (fltU u) = fltU u:=by
  unfold bitsF
  split
  ·rename_i h
   rcases hc with h1 | h1
   ·rw [h1] at h;cases h
   ·exact h1.symm
  ·rfl
 unfold keyU
 rw [hb]
 unfold fltU
 split <;> split <;> omega
theorem fltU_lt {u : Nat} (hu : u < 18446744073709551616) : fltU u < 18446744073709551616:=by unfold fltU;split <;> omega
theorem parT_esc : ∀ (t r : List UInt8),parT (esc t ++ 0 :: 1 :: r) = some (t,r)
 | [],r => by rw [show esc [] = [] from rfl,List.nil_append,parT_01]
 | c :: t,r => by
   rw [esc_cons]
   by_cases h : c = 0
   ·subst h
    rw [if_pos rfl]
    show parT (0 :: 255 :: (esc t ++ 0 :: 1 :: r)) = _
    rw [parT_ff,parT_esc t r]
    rfl
   ·rw [if_neg h]
    show parT (c :: (esc t ++ 0 :: 1 :: r)) = _
    rw [parT_c h,parT_esc t r]
    rfl
theorem parT_inv : ∀ (l : List UInt8) (p),parT l = some p → l = esc p.1 ++ 0 :: 1 :: p.2
 | [],_,h => by rw [parT.eq_def] at h;cases h
 | [c],p,h => by
   by_cases hc : c = 0
   ·subst hc;rw [parT_0] at h;cases h
   ·rw [parT_c hc,parT.eq_def] at h;cases h
 | c :: d :: r,p,h => by
   by_cases hc : c = 0
   ·subst hc
    by_cases hd : d = 255
    ·subst hd
     rw [parT_ff] at h
     obtain ⟨q,hq,rfl⟩:=Option.map_eq_some_iff.1 h
     have:=parT_inv r q hq
     rw [esc_cons,if_pos rfl]
     conv => lhs;rw [this]
     rfl
    ·by_cases h1 : d = 1
     ·subst h1
      rw [parT_01] at h
      cases h
      rfl
     ·rw [parT_bad r hd h1] at h;cases h
   ·rw [parT_c hc] at h
    obtain ⟨q,hq,rfl⟩:=Option.map_eq_some_iff.1 h
    have:=parT_inv (d :: r) q hq
    rw [esc_cons,if_neg hc]
    conv => lhs;rw [this]
    rfl
theorem texR_esc : ∀ (t r : List UInt8),texR (esc t ++ 0 :: 1 :: r) = some (t,r)
 | [],r => by rw [show esc [] = [] from rfl,List.nil_append,texR];simp
 | c :: t,r => by
   rw [esc_cons]
   by_cases h : c = 0
   ·subst h
    rw [if_pos rfl]
    show texR (0 :: 255 :: (esc t ++ 0 :: 1 :: r)) = _
    rw [texR]
    simp [texR_esc t r]
   ·rw [if_neg h]
    have ih:=texR_esc t r
    cases hx : esc t ++ 0 :: 1 :: r with
    | nil => simp at hx
    | cons d u =>
      show texR (c :: (esc t ++ 0 :: 1 :: r)) = _
      rw [hx] at ih ⊢
      rw [texR]
      simp [h,ih]
end
end Go.Proofs.YtonjgedhmmnolaaGreatDoor
