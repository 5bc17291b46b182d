import Derived.Test.YtonjgedhmmnolaaGreatDoorZ4
import Derived.Test.YtonjgedhmmnolaaGreatDoorZ9
namespace Go.Proofs.YtonjgedhmmnolaaGreatDoor
section
open Go.RowKit Ieee
set_option maxHeartbeats 1000000
set_option maxRecDepth 100000
def zF (f : Nat) : Int:=if 9223372036854775808 ≤ f then -((f - 9223372036854775808 : Nat) : Int) else f
def unitF (r : Nat) : Nat:=if r < 4503599627370496 then r else (4503599627370496 + r % 4503599627370496) * 2 ^ (r / 4503599627370496 - 1)
theorem unitF_ge {r : Nat} (h : ¬ r < 4503599627370496) : 4503599627370496 * 2 ^ (r / 4503599627370496 - 1) ≤ unitF r:=by
 unfold unitF
 rw [if_neg h]
 exact Nat.mul_le_mul_right _ (Nat.le_add_right _ _)
theorem unitF_lt {r : Nat} (h : ¬ r < 4503599627370496) : unitF r < 4503599627370496 * 2 ^ (r / 4503599627370496):=by
 unfold unitF
 rw [if_neg h]
 have hq : r / 4503599627370496 = (r / 4503599627370496 - 1) + 1:=by omega
 conv => rhs;rw [hq,Nat.pow_succ]
 have h1 : 4503599627370496 + r % 4503599627370496 < 4503599627370496 * 2:=by omega
 have h2:=Nat.mul_lt_mul_of_pos_right h1 (show 0 < 2 ^ (r / 4503599627370496 - 1) from Nat.pow_pos (by decide))
 calc _ < _:=h2
  _ = _:=by rw [Nat.mul_assoc,Nat.mul_comm 2]
theorem unitF_mono {r s : Nat} (h : r < s) : unitF r < unitF s:=by
 by_cases hs : s < 4503599627370496
 ·unfold unitF
  rw [if_pos hs,if_pos (by omega)]
  exact h
 ·by_cases hr : r < 4503599627370496
  ·have h1:=unitF_ge hs
   have h2 : 1 ≤ 2 ^ (s / 4503599627370496 - 1):=Nat.one_le_two_pow
   have h3:=Nat.mul_le_mul_left 4503599627370496 h2
   unfold unitF at h1 ⊢
   rw [if_pos hr]
   omega
  ·by_cases hq : r / 4503599627370496 = s / 4503599627370496
   ·unfold unitF
    rw [if_neg hs,if_neg hr,hq]
    refine Nat.mul_lt_mul_of_pos_right ?_ (Nat.pow_pos (by decide))
    omega
   ·have hlt : r / 4503599627370496 ≤ s / 4503599627370496 - 1:=by omega
    have h1:=unitF_lt hr
    have h2:=unitF_ge hs
    have h3:=Nat.mul_le_mul_left 4503599627370496 (Nat.pow_le_pow_right (show 0 < 2 by decide) hlt)
    omega
theorem unitF_le {r s : Nat} : unitF r ≤ unitF s ↔ r ≤ s:=by
 constructor
 ·intro h
  rcases Nat.lt_or_ge s r with h1 | h1
  ·have:=unitF_mono h1;omega
  ·exact h1
 ·intro h
  rcases Nat.lt_or_ge r s with h1 | h1
  ·exact Nat.le_of_lt (unitF_mono h1)
  ·rw [show r = s by omega];exact Nat.le_refl _
theorem cmp_scale (a b : Int) {k : Nat} (hk : 0 < k) : compare (a * k) (b * k) = compare a b:=by
 have hk' : (0 : Int) < k:=by omega
 have h1 : a * k < b * k ↔ a < b:=by
  constructor
  ·intro h;exact Int.lt_of_mul_lt_mul_right h (by omega)
  ·intro h;exact Int.mul_lt_mul_of_pos_right h hk'
 have h2 : a * k = b * k ↔ a = b:=by
  constructor
  ·intro h;exact Int.eq_of_mul_eq_mul_right (by omega) h
  ·intro h;rw [h]
 rcases Int.lt_trichotomy a b with h | h | h
 ·rw [Int.compare_eq_lt.2 h,Int.compare_eq_lt.2 (h1.2 h)]
 ·rw [Int.compare_eq_eq.2 h,Int.compare_eq_eq.2 (h2.2 h)]
 ·have h3 : b * k < a * k:=Int.mul_lt_mul_of_pos_right h hk'
  rw [Int.compare_eq_gt.2 h,Int.compare_eq_gt.2 h3]
theorem signed_shift (s : Bool) (m a k : Nat) : signed s m (a + k) = signed s m a * (2 ^ k : Nat):=by
 unfold signed
 rw [Nat.shiftLeft_add,Nat.shiftLeft_eq (m <<< a) k]
 cases s <;> simp [Int.neg_mul]
theorem order_num (s t : Bool) (m n i j : Nat) (L : Int) : Datum.order (.number s m (L + i)) (.number t n (L + j)) = some (compare (signed s m i) (signed t n j)):=by
 simp only [Datum.order]
 congr 1
 have e1 : (L + (i : Int) - min (L + (i : Int)) (L + (j : Int))).toNat = i - min i j:=by omega
 have e2 : (L + (j : Int) - min (L + (i : Int)) (L + (j : Int))).toNat = j - min i j:=by omega
 rw [e1,e2]
 have h1 : signed s m i = signed s m (i - min i j) * (2 ^ (min i j) : Nat):=by rw [← signed_shift];congr 1;omega
 have h2 : signed t n j = signed t n (j - min i j) * (2 ^ (min i j) : Nat):=by rw [← signed_shift];congr 1;omega
 rw [h1,h2,cmp_scale _ _ (Nat.pow_pos (by decide))]
theorem cmp_iff {a b c d : Int} (h1 : a < b ↔ c < d) (h2 : b < a ↔ d < c) : compare a b = compare c d:=by
 rcases Int.lt_trichotomy a b with h | h | h
 ·rw [Int.compare_eq_lt.2 h,Int.compare_eq_lt.2 (h1.1 h)]
 ·have : c = d:=by
    rcases Int.lt_trichotomy c d with h' | h' | h'
    ·have:=h1.2 h';omega
    ·exact h'
    ·have:=h2.2 h';omega
  rw [Int.compare_eq_eq.2 h,Int.compare_eq_eq.2 this]
 ·rw [Int.compare_eq_gt.2 h,Int.compare_eq_gt.2 (h2.1 h)]
def sgn (s : Bool) (n : Nat) : Int:=if s then -(n : Int) else n
theorem unitF_zero : unitF 0 = 0:=rfl
theorem cmp_units (s t : Bool) (r r' : Nat) : compare (sgn s (unitF r)) (sgn t (unitF r')) = compare (sgn s r) (sgn t r'):=by
 have h1 : unitF r ≤ unitF r' ↔ r ≤ r':=unitF_le
 have h2 : unitF r' ≤ unitF r ↔ r' ≤ r:=unitF_le
 have h3 : unitF r ≤ unitF 0 ↔ r ≤ 0:=unitF_le
 have h4 : unitF r' ≤ unitF 0 ↔ r' ≤ 0:=unitF_le
 rw [unitF_zero] at h3 h4
 cases s <;> cases t <;> simp only [sgn,if_true,if_false,Bool.false_eq_true] <;> apply cmp_iff <;> omega
theorem sgn_unit (s : Bool) (m k u : Nat) (h : m <<< k = u) : signed s m k = sgn s u:=by subst h;rfl
theorem read_num {f : Nat} (h : f % 9223372036854775808 < 9218868437227405312) :
 ∃ m k : Nat,FloatKind.f64.format.read f = .number (f / 9223372036854775808 % 2 == 1) m (-1074 + (k : Int)) ∧ m <<< k = unitF (f % 9223372036854775808):=by
 have hb : FloatKind.f64.format = double:=rfl
 by_cases h0 : f % 9223372036854775808 < 4503599627370496
 ·refine ⟨f % 9223372036854775808,0,?_,by unfold unitF;rw [if_pos h0];rfl⟩
  rw [hb]
  unfold Format.read
  simp only [show double.signWeight = 9223372036854775808 from rfl,show double.binade = 4503599627370496 from rfl,show double.leastPlace = -1074 from rfl]
  rw [if_pos h0]
  rfl
 ·refine ⟨4503599627370496 + f % 9223372036854775808 % 4503599627370496,f % 9223372036854775808 / 4503599627370496 - 1,?_,by unfold unitF;rw [if_neg h0,Nat.shiftLeft_eq]⟩
  rw [hb]
  unfold Format.read
  simp only [show double.signWeight = 9223372036854775808 from rfl,show double.binade = 4503599627370496 from rfl,show double.leastPlace = -1074 from rfl,show double.infRung = 9218868437227405312 from rfl]
  rw [if_neg h0,if_pos h]
theorem read_inf {f : Nat} (h : f % 9223372036854775808 = 9218868437227405312) : FloatKind.f64.format.read f = .infinity (f / 9223372036854775808 % 2 == 1):=by
 have hb : FloatKind.f64.format = double:=rfl
 rw [hb]
 unfold Format.read
 simp only [show double.signWeight = 9223372036854775808 from rfl,show double.binade = 4503599627370496 from rfl,show double.infRung = 9218868437227405312 from rfl]
 rw [if_neg (by omega),if_neg (by omega),if_pos h]
theorem read_odd {f : Nat} (h : 9218868437227405312 < f % 9223372036854775808) : ∃ b n,FloatKind.f64.format.read f = .nan b n:=by
 have hb : FloatKind.f64.format = double:=rfl
 refine ⟨(f / 9223372036854775808 % 2 == 1),(f % 9223372036854775808 - 9218868437227405312),?_⟩
 rw [hb]
 unfold Format.read
 simp only [show double.signWeight = 9223372036854775808 from rfl,show double.binade = 4503599627370496 from rfl,show double.infRung = 9218868437227405312 from rfl]
 rw [if_neg (by omega),if_neg (by omega),if_neg (by omega)]
theorem nan_rung {f : Nat} (h : isNan f = false) : f % 9223372036854775808 ≤ 9218868437227405312:=by
 rcases Nat.lt_or_ge 9218868437227405312 (f % 9223372036854775808) with h1 | h1
 ·obtain ⟨b,n,hr⟩:=read_odd h1
  simp [isNan,Format.order,hr,Datum.order] at h
 ·exact h1
theorem zF_sgn {f : Nat} (h : f < 18446744073709551616) : zF f = sgn (f / 9223372036854775808 % 2 == 1) (f % 9223372036854775808):=by
 unfold zF sgn
 by_cases h1 : 9223372036854775808 ≤ f
 ·rw [if_pos h1,if_pos (by rw [beq_iff_eq];omega)];omega
 ·rw [if_neg h1,if_neg (by rw [beq_iff_eq];omega)];omega
theorem order_z {f g : Nat} (hf : f < 18446744073709551616) (hg : g < 18446744073709551616) (nf : isNan f = false) (ng : isNan g = false) : FloatKind.f64.format.order f g = some (compare (zF f) (zF g)):=by
 have rf:=nan_rung nf
 have rg:=nan_rung ng
 rw [zF_sgn hf,zF_sgn hg,← cmp_units]
 obtain ⟨sf,hsf⟩ : ∃ b,(f / 9223372036854775808 % 2 == 1) = b:=⟨_,rfl⟩
 obtain ⟨sg,hsg⟩ : ∃ b,(g / 9223372036854775808 % 2 == 1) = b:=⟨_,rfl⟩
 rw [Format.order]
 by_cases f1 : f % 9223372036854775808 < 9218868437227405312
 ·obtain ⟨m,k,h1,h2⟩:=read_num f1
  by_cases g1 : g % 9223372036854775808 < 9218868437227405312
  ·obtain ⟨n,j,h3,h4⟩:=read_num g1
   rw [h1,h3,order_num,sgn_unit _ _ _ _ h2,sgn_unit _ _ _ _ h4]
  ·have g2 : g % 9223372036854775808 = 9218868437227405312:=by omega
   have hm:=unitF_mono f1
   rw [h1,read_inf g2,hsf,hsg,g2]
   simp only [Datum.order]
   cases sg
   ·rw [if_neg (by decide),Int.compare_eq_lt.2]
    cases sf <;> simp only [sgn,if_true,if_false,Bool.false_eq_true] <;> omega
   ·rw [if_pos rfl,Int.compare_eq_gt.2]
    cases sf <;> simp only [sgn,if_true,if_false,Bool.false_eq_true] <;> omega
 ·have f2 : f % 9223372036854775808 = 9218868437227405312:=by omega
  by_cases g1 : g % 9223372036854775808 < 9218868437227405312
  ·obtain ⟨n,j,h3,h4⟩:=read_num g1
   have hm:=unitF_mono g1
   rw [read_inf f2,h3,hsf,hsg,f2]
   simp only [Datum.order]
   cases sf
   ·rw [if_neg (by decide),Int.compare_eq_gt.2]
    cases sg <;> simp only [sgn,if_true,if_false,Bool.false_eq_true] <;> omega
   ·rw [if_pos rfl,Int.compare_eq_lt.2]
    cases sg <;> simp only [sgn,if_true,if_false,Bool.false_eq_true] <;> omega
  ·have g2 : g % 9223372036854775808 = 9218868437227405312:=by omega
   rw [read_inf f2,read_inf g2,hsf,hsg,f2,g2]
   obtain ⟨U,hU⟩ : ∃ u,unitF 9218868437227405312 = u:=⟨_,rfl⟩
   have hm : 0 < U:=by rw [← hU];exact unitF_mono (r:=0) (by decide)
   rw [hU]
   simp only [Datum.order]
   cases sf <;> cases sg <;> simp only [sgn,if_true,if_false,Bool.false_eq_true,Bool.toNat_false,Bool.toNat_true]
   ·rw [Int.compare_eq_eq.2 rfl];rfl
   ·rw [Int.compare_eq_gt.2 (by omega)];rfl
   ·rw [Int.compare_eq_lt.2 (by omega)];rfl
   ·rw [Int.compare_eq_eq.2 rfl];rfl
end
section
open Go.RowKit Ieee
set_option maxHeartbeats 1000000
set_option maxRecDepth 100000
theorem nan_none {f : Nat} (h : isNan f = true) : (∀ g,FloatKind.f64.format.order f g = none) ∧ (∀ g,FloatKind.f64.format.order g f = none):=by
 have hd : ∃ b n,FloatKind.f64.format.read f = .nan b n:=by
  rcases Nat.lt_or_ge 9218868437227405312 (f % 9223372036854775808) with h1 | h1
  ·exact read_odd h1
  ·exfalso
   by_cases h2 : f % 9223372036854775808 < 9218868437227405312
   ·obtain ⟨m,k,h3,_⟩:=read_num h2
    simp [isNan,Format.order,h3,order_num] at h
   ·simp [isNan,Format.order,read_inf (show f % 9223372036854775808 = 9218868437227405312 by omega),Datum.order] at h
 obtain ⟨b,n,hr⟩:=hd
 constructor
 ·intro g;simp [Format.order,hr,Datum.order]
 ·intro g
  rw [Format.order,hr]
  cases FloatKind.f64.format.read g <;> rfl
theorem keyU_num {f : Nat} (h : isNan f = false) : keyU f = if 9223372036854775808 ≤ f then 18446744073709551615 - f else f + 9223372036854775808:=by
 have hb : bitsF f = f:=by unfold bitsF;rw [h];rfl
 unfold keyU
 rw [hb]
theorem keyU_nan {f : Nat} (h : isNan f = true) : keyU f = 18444492273895866368:=by
 have hb : bitsF f = 9221120237041090560:=by unfold bitsF;rw [h];rfl
 unfold keyU
 rw [hb]
 rfl
theorem keyU_top {f : Nat} (h : isNan f = false) (hf : f < 18446744073709551616) : keyU f < 18444492273895866368:=by
 have:=nan_rung h
 rw [keyU_num h]
 split <;> omega
theorem sign_c (a b : Bool) (w : World) : Calls Tryz.prog 114 #[.bool a,.bool b] w fun e w' => e = .returned (.int .i64 (if a = true then -1 else if b = true then 1 else 0)) ∧ w = w':=by
 cases a <;> cases b
 all_goals
  go_enter Tryz.func114,Tryz.ntmps114
  go_wp2
  go_ret
  exact ⟨rfl,rfl⟩
theorem sign_cmp (a b : Int) : (if decide (a < b) = true then -1 else if decide (b < a) = true then 1 else 0 : Int) = cmpZ a b:=by
 unfold cmpZ
 simp
theorem signbit_c (f : Nat) (h : f < 18446744073709551616) (w : World) : Calls Tryz.prog 145 #[.float .f64 f] w fun e w' => e = .returned (.bool (decide (9223372036854775808 ≤ f))) ∧ w = w':=by
 obtain ⟨z,hz⟩ : ∃ z : Int,(f : Int) = z:=⟨_,rfl⟩
 have hc : ∀ w,(callFunc 106 #[.float .f64 f]).run Tryz.prog w = .ok (.value (.int .u64 z)) w:=by rw [← hz];exact bits_call f
 obtain ⟨v,hv⟩ : ∃ v,decide (9223372036854775808 ≤ f) = v:=⟨_,rfl⟩
 have e1 : decide (IntKind.i64.wrap z < 0) = v:=by
  rw [← hv,← hz]
  apply decide_eq_decide.2
  rw [IntKind.wrap_i64]
  (try unfold wrap64)
  omega
 have e2 : decide (wrap64 z < 0) = v:=by
  rw [← hv,← hz]
  apply decide_eq_decide.2
  unfold wrap64
  omega
 rw [hv]
 clear hz hv h
 go_enter Tryz.func145,Tryz.ntmps145
 go_wp2
 go_ret
 exact ⟨ret_eq (by simp_all),rfl⟩
theorem floats_c (f g : Nat) (hf : f < 18446744073709551616) (hg : g < 18446744073709551616) (w : World) : Calls Tryz.prog 133 #[.float .f64 f,.float .f64 g] w fun e w' => e = .returned (.int .i64 (cmpZ (keyU f) (keyU g))) ∧ w = w':=by
 obtain ⟨R,hR⟩ : ∃ R,cmpZ (keyU f) (keyU g) = R:=⟨_,rfl⟩
 rw [hR]
 have HF:=Ld hf
 have HG:=Ld hg
 cases nf : isNan f with
 | true =>
   have o1:=(nan_none nf).1 f
   cases ng : isNan g with
   | true =>
     have o2:=(nan_none ng).1 g
     have HR:=Ld (show R = 0 by rw [← hR,keyU_nan nf,keyU_nan ng];rfl)
     clear hR nf ng hf hg
     go_enter Tryz.func133,Tryz.ntmps133
     go_wp2_with (go_at_call 114;go_must (refine (sign_c _ _ _).mono ?_;rintro e w1 ⟨rfl,rfl⟩))
     go_ret
     exact ⟨ret_eq (by rw [HR.out];rfl),rfl⟩
   | false =>
     have o2 : FloatKind.f64.format.order g g = some .eq:=by simpa [isNan] using ng
     have HR:=Ld (show R = 1 by
      have:=keyU_top ng hg
      rw [← hR,keyU_nan nf,cmpZ,if_neg (by omega),if_pos (by omega)])
     clear hR nf ng hf hg
     go_enter Tryz.func133,Tryz.ntmps133
     go_wp2_with (go_at_call 114;go_must (refine (sign_c _ _ _).mono ?_;rintro e w1 ⟨rfl,rfl⟩))
     go_ret
     exact ⟨ret_eq (by rw [HR.out];rfl),rfl⟩
 | false =>
   have o1 : FloatKind.f64.format.order f f = some .eq:=by simpa [isNan] using nf
   cases ng : isNan g with
   | true =>
     have o2:=(nan_none ng).1 g
     have HR:=Ld (show R = -1 by
      have:=keyU_top nf hf
      rw [← hR,keyU_nan ng,cmpZ,if_pos (by omega)])
     clear hR nf ng hf hg
     go_enter Tryz.func133,Tryz.ntmps133
     go_wp2_with (go_at_call 114;go_must (refine (sign_c _ _ _).mono ?_;rintro e w1 ⟨rfl,rfl⟩))
     go_ret
     exact ⟨ret_eq (by rw [HR.out];rfl),rfl⟩
   | false =>
     have o2 : FloatKind.f64.format.order g g = some .eq:=by simpa [isNan] using ng
     have o3:=order_z hf hg nf ng
     have kf:=keyU_num nf
     have kg:=keyU_num ng
     rcases Int.lt_trichotomy (zF f) (zF g) with h | h | h
     ·rw [Int.compare_eq_lt.2 h] at o3
      have HR:=Ld (show R = -1 by
       rw [← hR,cmpZ,if_pos]
       rw [kf,kg]
       unfold zF at h
       by_cases h1 : 9223372036854775808 ≤ f <;> by_cases h2 : 9223372036854775808 ≤ g <;> simp only [h1,h2,if_true,if_false] at h ⊢ <;> omega)
      clear hR nf ng hf hg kf kg h
      go_enter Tryz.func133,Tryz.ntmps133
      go_wp2_with (go_at_call 114;go_must (refine (sign_c _ _ _).mono ?_;rintro e w1 ⟨rfl,rfl⟩))
      go_ret
      exact ⟨ret_eq (by rw [HR.out];rfl),rfl⟩
     ·rw [Int.compare_eq_eq.2 h] at o3
      have HR:=Ld (show R = if (decide (9223372036854775808 ≤ f) && !decide (9223372036854775808 ≤ g)) = true then -1 else if (!decide (9223372036854775808 ≤ f) && decide (9223372036854775808 ≤ g)) = true then 1 else 0 by
       rw [← hR,cmpZ,kf,kg]
       unfold zF at h
       by_cases h1 : 9223372036854775808 ≤ f <;> by_cases h2 : 9223372036854775808 ≤ g <;> simp only [h1,h2,if_true,if_false,decide_true,decide_false,Bool.not_true,Bool.not_false,Bool.and_true,Bool.and_false,Bool.true_and,Bool.false_and,Bool.false_eq_true] at h ⊢
       ·rw [if_neg (by omega),if_neg (by omega)]
       ·rw [if_pos (by omega)]
       ·rw [if_neg (by omega),if_pos (by omega)]
       ·rw [if_neg (by omega),if_neg (by omega)])
      clear hR nf ng hf hg kf kg h
      obtain ⟨sf,hsf⟩ : ∃ b,decide (9223372036854775808 ≤ f) = b:=⟨_,rfl⟩
      obtain ⟨sg,hsg⟩ : ∃ b,decide (9223372036854775808 ≤ g) = b:=⟨_,rfl⟩
      rw [hsf,hsg] at HR
      have HSF:=Ld hsf
      have HSG:=Ld hsg
      clear hsf hsg
      cases sf <;> cases sg
      all_goals
       go_enter Tryz.func133,Tryz.ntmps133
       go_wp2_with (first
        | (go_at_call 114;go_must (refine (sign_c _ _ _).mono ?_;rintro e w1 ⟨rfl,rfl⟩))
        | (go_at_call 145;refine (signbit_c f HF.out _).mono ?_;rw [HSF.out];rintro e w1 ⟨rfl,rfl⟩)
        | (go_at_call 145;refine (signbit_c g HG.out _).mono ?_;rw [HSG.out];rintro e w1 ⟨rfl,rfl⟩))
       go_ret
       exact ⟨ret_eq (by rw [HR.out];rfl),rfl⟩
     ·rw [Int.compare_eq_gt.2 h] at o3
      have HR:=Ld (show R = 1 by
       rw [← hR,cmpZ,kf,kg]
       unfold zF at h
       by_cases h1 : 9223372036854775808 ≤ f <;> by_cases h2 : 9223372036854775808 ≤ g <;> simp only [h1,h2,if_true,if_false] at h ⊢
       all_goals rw [if_neg (by omega),if_pos (by omega)])
      clear hR nf ng hf hg kf kg h
      go_enter Tryz.func133,Tryz.ntmps133
      go_wp2_with (go_at_call 114;go_must (refine (sign_c _ _ _).mono ?_;rintro e w1 ⟨rfl,rfl⟩))
      go_ret
      exact ⟨ret_eq (by rw [HR.out];rfl),rfl⟩
end
end Go.Proofs.YtonjgedhmmnolaaGreatDoor
