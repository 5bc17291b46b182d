import Derived.Test.YtonjgedhmmnolaaGreatDoorZY1
import Derived.Test.YtonjgedhmmnolaaGreatDoorZ23
namespace Go.Proofs.YtonjgedhmmnolaaGreatDoor
section
open Go.RowKit
set_option maxHeartbeats 2000000
set_option maxRecDepth 100000
theorem cmpB_eq : ∀ a b : List UInt8,Lib.compareBytes a b = if Op.bytesLess a b = true then -1 else if (a == b) = true then 0 else 1
 | [],[] => by simp [Lib.compareBytes,Op.bytesLess]
 | [],_ :: _ => by simp [Lib.compareBytes,Op.bytesLess]
 | _ :: _,[] => by simp [Lib.compareBytes,Op.bytesLess]
 | a :: x,b :: y => by
   have ih:=cmpB_eq x y
   simp only [Lib.compareBytes,Op.bytesLess,Bool.or_eq_true,Bool.and_eq_true,decide_eq_true_eq,beq_iff_eq,List.cons.injEq] at ih ⊢
   by_cases h1 : a < b
   ·rw [if_pos h1,if_pos (.inl h1)]
   ·by_cases h2 : b < a
    ·have h3 : ¬ a = b:=fun e => by subst e;exact h1 h2
     rw [if_neg h1,if_pos h2,if_neg (by rintro (h | h);exact h1 h;exact h3 h.1),if_neg (by rintro ⟨h,_⟩;exact h3 h)]
    ·have h3 : a = b:=UInt8.toNat_inj.1 (by have h1' : ¬ a.toNat < b.toNat:=h1;have h2' : ¬ b.toNat < a.toNat:=h2;omega)
     subst h3
     rw [if_neg h1,ih]
     simp [h1]
def RowsIH [Inhabited Thr] (s : Nat) : Prop:=∀ (l l' : List VI) (A A' : Option Addr) (c c' : Nat) (w : World),SizeOf.sizeOf l ≤ s → RdI w A c l → RdI w A' c' l' → okL (VI.dataL l) = true → okL (VI.dataL l') = true →
    Calls Tryz.prog 134 #[.slice A l.length c,.slice A' l'.length c'] w fun e w' => e = .returned (.int .i64 (ordL (VI.dataL l) (VI.dataL l'))) ∧ Below w.heap.size w w'
theorem ok_kind {x : VI} (h : okI x.data = true) : (1 ≤ x.k ∧ x.k ≤ 6) ∧ okL (VI.dataL x.l) = true ∧ (x.k ≠ 6 → x.l = []):=by
 rw [okI_eq,Bool.and_eq_true] at h
 have h1:=h.1
 have h2:=h.1
 simp only [mayN,Bool.and_eq_true,decide_eq_true_eq] at h1
 exact ⟨h1.1,h.2,fun hk => mayN_list h2 hk⟩
theorem refOrd1_c [Inhabited Thr] (s : Nat) (IH : RowsIH s) (x y : VI) (w : World) (hs : SizeOf.sizeOf x.l ≤ s) (hX : RdV w x) (hY : RdV w y) (hox : okI x.data = true) (hoy : okI y.data = true) (hk1 : x.k = 1) (hk2 : y.k = 1) :
 Calls Tryz.prog 115 #[x.val,y.val] w fun e w' => e = .returned (.int .i64 (ordI x.data y.data)) ∧ Below w.heap.size w w':=by
 have HX:=Ld hX
 have HY:=Ld hY
 have HIH:=Ld IH
 have HSX:=Ld hs
 obtain ⟨hkx,hlx,hex⟩:=ok_kind hox
 obtain ⟨hky,hly,hey⟩:=ok_kind hoy
 have HLX:=Ld hlx
 have HLY:=Ld hly
 have hxf:=hX.hf
 have hyf:=hY.hf
 have HEX:=Ld hex
 have HEY:=Ld hey
 clear hX hY hs IH hox hoy hlx hly hex hey
 rcases x with ⟨xk,xb,xn,xf,xt,xA,xc,xl⟩
 rcases y with ⟨yk,yb,yn,yf,yt,yA,yc,yl⟩
 have HO:=Ld (ordI_mk xk xn xb xf xt xA xc xl yk yn yb yf yt yA yc yl)
 obtain ⟨R,hR⟩ : ∃ R,ordI (VI.mk xk xb xn xf xt xA xc xl).data (VI.mk yk yb yn yf yt yA yc yl).data = R:=⟨_,rfl⟩
 rw [hR] at HO ⊢
 simp only [VI.val,VI.k,VI.b,VI.n,VI.f,VI.t,VI.A,VI.c,VI.l] at HSX HLX HLY HEX HEY hkx hky hxf hyf hk1 hk2 ⊢
 clear hR hkx hky
 subst hk1 hk2
 rw [if_neg (by simp)] at HO
 obtain ⟨W0,hW0⟩ : ∃ W0,(w.alloc (.cells (c6 1 xb xn xf xt xA xl.length xc) 54)).alloc (.cells (c6 1 yb yn yf yt yA yl.length yc) 54) = W0:=⟨_,rfl⟩
 have HW0:=Ld hW0
 have HBX:=Ld (fun W (h : Below (w.heap.size + 2) W0 W) => boxes_ii (hW0 ▸ h))
 have HS0:=Ld (show W0.heap.size = w.heap.size + 2 by rw [← hW0];simp)
 have HB0:=Ld (show Below w.heap.size w W0 by rw [← hW0];exact two_below w _ _)
 clear hW0
 have HFX:=Ld hxf
 have HFY:=Ld hyf
 clear hxf hyf
 go_enter Tryz.func115,Tryz.ntmps115
 go_upto_region 1 with fail
 rw [show (w.alloc (.cells #[.int .u8 1,.bool xb,.int .i64 xn,.float .f64 xf,.string xt,.slice xA xl.length xc] 54)).alloc (.cells #[.int .u8 1,.bool yb,.int .i64 yn,.float .f64 yf,.string yt,.slice yA yl.length yc] 54) = W0 from HW0.out]
 obtain ⟨r0,r1,r2,r3⟩:=HBX.out W0 (Below.refl _ _)
 have p0:=cell_of_row _ _ 0 _ _ _ r0
 have q0:=cell_of_row _ _ 0 _ _ _ r1
 have p1:=cell_of_row _ _ 1 _ _ _ r0
 have q1:=cell_of_row _ _ 1 _ _ _ r1
 have p2:=cell_of_row _ _ 2 _ _ _ r0
 have q2:=cell_of_row _ _ 2 _ _ _ r1
 have p3:=cell_of_row _ _ 3 _ _ _ r0
 have q3:=cell_of_row _ _ 3 _ _ _ r1
 have p4:=cell_of_row _ _ 4 _ _ _ r0
 have q4:=cell_of_row _ _ 4 _ _ _ r1
 have p5:=cell_of_row _ _ 5 _ _ _ r0
 have q5:=cell_of_row _ _ 5 _ _ _ r1
 clear r0 r1 r2 r3
 ·have HR:=Ld (show R = 0 by rw [HO.out,if_neg (by decide),if_neg (by decide),if_neg (by decide),if_neg (by decide),HEX.out (by decide),HEY.out (by decide),VI.dataL,ordL_end [] [] (.inl rfl)];decide)
  clear HO HEX HEY
  go_wp2
  go_ret
  exact ⟨ret_eq (by rw [HR.out];rfl),HB0.out⟩
theorem refOrd2_c [Inhabited Thr] (s : Nat) (IH : RowsIH s) (x y : VI) (w : World) (hs : SizeOf.sizeOf x.l ≤ s) (hX : RdV w x) (hY : RdV w y) (hox : okI x.data = true) (hoy : okI y.data = true) (hk1 : x.k = 2) (hk2 : y.k = 2) :
 Calls Tryz.prog 115 #[x.val,y.val] w fun e w' => e = .returned (.int .i64 (ordI x.data y.data)) ∧ Below w.heap.size w w':=by
 have HX:=Ld hX
 have HY:=Ld hY
 have HIH:=Ld IH
 have HSX:=Ld hs
 obtain ⟨hkx,hlx,hex⟩:=ok_kind hox
 obtain ⟨hky,hly,hey⟩:=ok_kind hoy
 have HLX:=Ld hlx
 have HLY:=Ld hly
 have hxf:=hX.hf
 have hyf:=hY.hf
 have HEX:=Ld hex
 have HEY:=Ld hey
 clear hX hY hs IH hox hoy hlx hly hex hey
 rcases x with ⟨xk,xb,xn,xf,xt,xA,xc,xl⟩
 rcases y with ⟨yk,yb,yn,yf,yt,yA,yc,yl⟩
 have HO:=Ld (ordI_mk xk xn xb xf xt xA xc xl yk yn yb yf yt yA yc yl)
 obtain ⟨R,hR⟩ : ∃ R,ordI (VI.mk xk xb xn xf xt xA xc xl).data (VI.mk yk yb yn yf yt yA yc yl).data = R:=⟨_,rfl⟩
 rw [hR] at HO ⊢
 simp only [VI.val,VI.k,VI.b,VI.n,VI.f,VI.t,VI.A,VI.c,VI.l] at HSX HLX HLY HEX HEY hkx hky hxf hyf hk1 hk2 ⊢
 clear hR hkx hky
 subst hk1 hk2
 rw [if_neg (by simp)] at HO
 obtain ⟨W0,hW0⟩ : ∃ W0,(w.alloc (.cells (c6 2 xb xn xf xt xA xl.length xc) 54)).alloc (.cells (c6 2 yb yn yf yt yA yl.length yc) 54) = W0:=⟨_,rfl⟩
 have HW0:=Ld hW0
 have HBX:=Ld (fun W (h : Below (w.heap.size + 2) W0 W) => boxes_ii (hW0 ▸ h))
 have HS0:=Ld (show W0.heap.size = w.heap.size + 2 by rw [← hW0];simp)
 have HB0:=Ld (show Below w.heap.size w W0 by rw [← hW0];exact two_below w _ _)
 clear hW0
 have HFX:=Ld hxf
 have HFY:=Ld hyf
 clear hxf hyf
 go_enter Tryz.func115,Tryz.ntmps115
 go_upto_region 1 with fail
 rw [show (w.alloc (.cells #[.int .u8 2,.bool xb,.int .i64 xn,.float .f64 xf,.string xt,.slice xA xl.length xc] 54)).alloc (.cells #[.int .u8 2,.bool yb,.int .i64 yn,.float .f64 yf,.string yt,.slice yA yl.length yc] 54) = W0 from HW0.out]
 obtain ⟨r0,r1,r2,r3⟩:=HBX.out W0 (Below.refl _ _)
 have p0:=cell_of_row _ _ 0 _ _ _ r0
 have q0:=cell_of_row _ _ 0 _ _ _ r1
 have p1:=cell_of_row _ _ 1 _ _ _ r0
 have q1:=cell_of_row _ _ 1 _ _ _ r1
 have p2:=cell_of_row _ _ 2 _ _ _ r0
 have q2:=cell_of_row _ _ 2 _ _ _ r1
 have p3:=cell_of_row _ _ 3 _ _ _ r0
 have q3:=cell_of_row _ _ 3 _ _ _ r1
 have p4:=cell_of_row _ _ 4 _ _ _ r0
 have q4:=cell_of_row _ _ 4 _ _ _ r1
 have p5:=cell_of_row _ _ 5 _ _ _ r0
 have q5:=cell_of_row _ _ 5 _ _ _ r1
 clear r0 r1 r2 r3
 ·have HR:=Ld (show R = (if xb = true then 1 else 0) - (if yb = true then 1 else 0) by rw [HO.out,if_pos rfl])
  clear HO HEX HEY
  cases xb <;> cases yb
  all_goals
   go_wp2_with (go_at_call 114;go_must (refine (sign_c _ _ _).mono ?_;rintro e w1 ⟨rfl,rfl⟩))
   go_ret
   exact ⟨ret_eq (by rw [HR.out];rfl),HB0.out⟩
theorem refOrd3_c [Inhabited Thr] (s : Nat) (IH : RowsIH s) (x y : VI) (w : World) (hs : SizeOf.sizeOf x.l ≤ s) (hX : RdV w x) (hY : RdV w y) (hox : okI x.data = true) (hoy : okI y.data = true) (hk1 : x.k = 3) (hk2 : y.k = 3) :
 Calls Tryz.prog 115 #[x.val,y.val] w fun e w' => e = .returned (.int .i64 (ordI x.data y.data)) ∧ Below w.heap.size w w':=by
 have HX:=Ld hX
 have HY:=Ld hY
 have HIH:=Ld IH
 have HSX:=Ld hs
 obtain ⟨hkx,hlx,hex⟩:=ok_kind hox
 obtain ⟨hky,hly,hey⟩:=ok_kind hoy
 have HLX:=Ld hlx
 have HLY:=Ld hly
 have hxf:=hX.hf
 have hyf:=hY.hf
 have HEX:=Ld hex
 have HEY:=Ld hey
 clear hX hY hs IH hox hoy hlx hly hex hey
 rcases x with ⟨xk,xb,xn,xf,xt,xA,xc,xl⟩
 rcases y with ⟨yk,yb,yn,yf,yt,yA,yc,yl⟩
 have HO:=Ld (ordI_mk xk xn xb xf xt xA xc xl yk yn yb yf yt yA yc yl)
 obtain ⟨R,hR⟩ : ∃ R,ordI (VI.mk xk xb xn xf xt xA xc xl).data (VI.mk yk yb yn yf yt yA yc yl).data = R:=⟨_,rfl⟩
 rw [hR] at HO ⊢
 simp only [VI.val,VI.k,VI.b,VI.n,VI.f,VI.t,VI.A,VI.c,VI.l] at HSX HLX HLY HEX HEY hkx hky hxf hyf hk1 hk2 ⊢
 clear hR hkx hky
 subst hk1 hk2
 rw [if_neg (by simp)] at HO
 obtain ⟨W0,hW0⟩ : ∃ W0,(w.alloc (.cells (c6 3 xb xn xf xt xA xl.length xc) 54)).alloc (.cells (c6 3 yb yn yf yt yA yl.length yc) 54) = W0:=⟨_,rfl⟩
 have HW0:=Ld hW0
 have HBX:=Ld (fun W (h : Below (w.heap.size + 2) W0 W) => boxes_ii (hW0 ▸ h))
 have HS0:=Ld (show W0.heap.size = w.heap.size + 2 by rw [← hW0];simp)
 have HB0:=Ld (show Below w.heap.size w W0 by rw [← hW0];exact two_below w _ _)
 clear hW0
 have HFX:=Ld hxf
 have HFY:=Ld hyf
 clear hxf hyf
 go_enter Tryz.func115,Tryz.ntmps115
 go_upto_region 1 with fail
 rw [show (w.alloc (.cells #[.int .u8 3,.bool xb,.int .i64 xn,.float .f64 xf,.string xt,.slice xA xl.length xc] 54)).alloc (.cells #[.int .u8 3,.bool yb,.int .i64 yn,.float .f64 yf,.string yt,.slice yA yl.length yc] 54) = W0 from HW0.out]
 obtain ⟨r0,r1,r2,r3⟩:=HBX.out W0 (Below.refl _ _)
 have p0:=cell_of_row _ _ 0 _ _ _ r0
 have q0:=cell_of_row _ _ 0 _ _ _ r1
 have p1:=cell_of_row _ _ 1 _ _ _ r0
 have q1:=cell_of_row _ _ 1 _ _ _ r1
 have p2:=cell_of_row _ _ 2 _ _ _ r0
 have q2:=cell_of_row _ _ 2 _ _ _ r1
 have p3:=cell_of_row _ _ 3 _ _ _ r0
 have q3:=cell_of_row _ _ 3 _ _ _ r1
 have p4:=cell_of_row _ _ 4 _ _ _ r0
 have q4:=cell_of_row _ _ 4 _ _ _ r1
 have p5:=cell_of_row _ _ 5 _ _ _ r0
 have q5:=cell_of_row _ _ 5 _ _ _ r1
 clear r0 r1 r2 r3
 ·have HR:=Ld (show R = cmpZ xn yn by rw [HO.out,if_neg (by decide),if_pos rfl])
  clear HO HEX HEY
  obtain ⟨b1,hb1⟩ : ∃ b,decide (xn < yn) = b:=⟨_,rfl⟩
  obtain ⟨b2,hb2⟩ : ∃ b,decide (yn < xn) = b:=⟨_,rfl⟩
  have HV:=Ld (show (if b1 = true then -1 else if b2 = true then 1 else 0 : Int) = cmpZ xn yn by rw [← hb1,← hb2];exact sign_cmp xn yn)
  go_wp2_with (go_at_call 114;go_must (refine (sign_c _ _ _).mono ?_;rintro e w1 ⟨rfl,rfl⟩;rw [HV.out]))
  go_ret
  exact ⟨ret_eq (by rw [HR.out];rfl),HB0.out⟩
theorem refOrd4_c [Inhabited Thr] (s : Nat) (IH : RowsIH s) (x y : VI) (w : World) (hs : SizeOf.sizeOf x.l ≤ s) (hX : RdV w x) (hY : RdV w y) (hox : okI x.data = true) (hoy : okI y.data = true) (hk1 : x.k = 4) (hk2 : y.k = 4) :
 Calls Tryz.prog 115 #[x.val,y.val] w fun e w' => e = .returned (.int .i64 (ordI x.data y.data)) ∧ Below w.heap.size w w':=by
 have HX:=Ld hX
 have HY:=Ld hY
 have HIH:=Ld IH
 have HSX:=Ld hs
 obtain ⟨hkx,hlx,hex⟩:=ok_kind hox
 obtain ⟨hky,hly,hey⟩:=ok_kind hoy
 have HLX:=Ld hlx
 have HLY:=Ld hly
 have hxf:=hX.hf
 have hyf:=hY.hf
 have HEX:=Ld hex
 have HEY:=Ld hey
 clear hX hY hs IH hox hoy hlx hly hex hey
 rcases x with ⟨xk,xb,xn,xf,xt,xA,xc,xl⟩
 rcases y with ⟨yk,yb,yn,yf,yt,yA,yc,yl⟩
 have HO:=Ld (ordI_mk xk xn xb xf xt xA xc xl yk yn yb yf yt yA yc yl)
 obtain ⟨R,hR⟩ : ∃ R,ordI (VI.mk xk xb xn xf xt xA xc xl).data (VI.mk yk yb yn yf yt yA yc yl).data = R:=⟨_,rfl⟩
 rw [hR] at HO ⊢
 simp only [VI.val,VI.k,VI.b,VI.n,VI.f,VI.t,VI.A,VI.c,VI.l] at HSX HLX HLY HEX HEY hkx hky hxf hyf hk1 hk2 ⊢
 clear hR hkx hky
 subst hk1 hk2
 rw [if_neg (by simp)] at HO
 obtain ⟨W0,hW0⟩ : ∃ W0,(w.alloc (.cells (c6 4 xb xn xf xt xA xl.length xc) 54)).alloc (.cells (c6 4 yb yn yf yt yA yl.length yc) 54) = W0:=⟨_,rfl⟩
 have HW0:=Ld hW0
 have HBX:=Ld (fun W (h : Below (w.heap.size + 2) W0 W) => boxes_ii (hW0 ▸ h))
 have HS0:=Ld (show W0.heap.size = w.heap.size + 2 by rw [← hW0];simp)
 have HB0:=Ld (show Below w.heap.size w W0 by rw [← hW0];exact two_below w _ _)
 clear hW0
 have HFX:=Ld hxf
 have HFY:=Ld hyf
 clear hxf hyf
 go_enter Tryz.func115,Tryz.ntmps115
 go_upto_region 1 with fail
 rw [show (w.alloc (.cells #[.int .u8 4,.bool xb,.int .i64 xn,.float .f64 xf,.string xt,.slice xA xl.length xc] 54)).alloc (.cells #[.int .u8 4,.bool yb,.int .i64 yn,.float .f64 yf,.string yt,.slice yA yl.length yc] 54) = W0 from HW0.out]
 obtain ⟨r0,r1,r2,r3⟩:=HBX.out W0 (Below.refl _ _)
 have p0:=cell_of_row _ _ 0 _ _ _ r0
 have q0:=cell_of_row _ _ 0 _ _ _ r1
 have p1:=cell_of_row _ _ 1 _ _ _ r0
 have q1:=cell_of_row _ _ 1 _ _ _ r1
 have p2:=cell_of_row _ _ 2 _ _ _ r0
 have q2:=cell_of_row _ _ 2 _ _ _ r1
 have p3:=cell_of_row _ _ 3 _ _ _ r0
 have q3:=cell_of_row _ _ 3 _ _ _ r1
 have p4:=cell_of_row _ _ 4 _ _ _ r0
 have q4:=cell_of_row _ _ 4 _ _ _ r1
 have p5:=cell_of_row _ _ 5 _ _ _ r0
 have q5:=cell_of_row _ _ 5 _ _ _ r1
 clear r0 r1 r2 r3
 ·have HR:=Ld (show R = cmpZ (keyU xf) (keyU yf) by rw [HO.out,if_neg (by decide),if_neg (by decide),if_pos rfl])
  have HFC:=Ld (fun w => floats_c xf yf HFX.out HFY.out w)
  obtain ⟨Kz,hKz⟩ : ∃ k,cmpZ (keyU xf) (keyU yf) = k:=⟨_,rfl⟩
  rw [hKz] at HR
  simp only [hKz] at HFC
  clear hKz
  clear HO HEX HEY
  go_wp2_with (go_at_call 133;go_must (refine (HFC.out _).mono ?_;rintro e w1 ⟨rfl,rfl⟩))
  go_ret
  exact ⟨ret_eq (by rw [HR.out];rfl),HB0.out⟩
theorem refOrd5_c [Inhabited Thr] (s : Nat) (IH : RowsIH s) (x y : VI) (w : World) (hs : SizeOf.sizeOf x.l ≤ s) (hX : RdV w x) (hY : RdV w y) (hox : okI x.data = true) (hoy : okI y.data = true) (hk1 : x.k = 5) (hk2 : y.k = 5) :
 Calls Tryz.prog 115 #[x.val,y.val] w fun e w' => e = .returned (.int .i64 (ordI x.data y.data)) ∧ Below w.heap.size w w':=by
 have HX:=Ld hX
 have HY:=Ld hY
 have HIH:=Ld IH
 have HSX:=Ld hs
 obtain ⟨hkx,hlx,hex⟩:=ok_kind hox
 obtain ⟨hky,hly,hey⟩:=ok_kind hoy
 have HLX:=Ld hlx
 have HLY:=Ld hly
 have hxf:=hX.hf
 have hyf:=hY.hf
 have HEX:=Ld hex
 have HEY:=Ld hey
 clear hX hY hs IH hox hoy hlx hly hex hey
 rcases x with ⟨xk,xb,xn,xf,xt,xA,xc,xl⟩
 rcases y with ⟨yk,yb,yn,yf,yt,yA,yc,yl⟩
 have HO:=Ld (ordI_mk xk xn xb xf xt xA xc xl yk yn yb yf yt yA yc yl)
 obtain ⟨R,hR⟩ : ∃ R,ordI (VI.mk xk xb xn xf xt xA xc xl).data (VI.mk yk yb yn yf yt yA yc yl).data = R:=⟨_,rfl⟩
 rw [hR] at HO ⊢
 simp only [VI.val,VI.k,VI.b,VI.n,VI.f,VI.t,VI.A,VI.c,VI.l] at HSX HLX HLY HEX HEY hkx hky hxf hyf hk1 hk2 ⊢
 clear hR hkx hky
 subst hk1 hk2
 rw [if_neg (by simp)] at HO
 obtain ⟨W0,hW0⟩ : ∃ W0,(w.alloc (.cells (c6 5 xb xn xf xt xA xl.length xc) 54)).alloc (.cells (c6 5 yb yn yf yt yA yl.length yc) 54) = W0:=⟨_,rfl⟩
 have HW0:=Ld hW0
 have HBX:=Ld (fun W (h : Below (w.heap.size + 2) W0 W) => boxes_ii (hW0 ▸ h))
 have HS0:=Ld (show W0.heap.size = w.heap.size + 2 by rw [← hW0];simp)
 have HB0:=Ld (show Below w.heap.size w W0 by rw [← hW0];exact two_below w _ _)
 clear hW0
 have HFX:=Ld hxf
 have HFY:=Ld hyf
 clear hxf hyf
 go_enter Tryz.func115,Tryz.ntmps115
 go_upto_region 1 with fail
 rw [show (w.alloc (.cells #[.int .u8 5,.bool xb,.int .i64 xn,.float .f64 xf,.string xt,.slice xA xl.length xc] 54)).alloc (.cells #[.int .u8 5,.bool yb,.int .i64 yn,.float .f64 yf,.string yt,.slice yA yl.length yc] 54) = W0 from HW0.out]
 obtain ⟨r0,r1,r2,r3⟩:=HBX.out W0 (Below.refl _ _)
 have p0:=cell_of_row _ _ 0 _ _ _ r0
 have q0:=cell_of_row _ _ 0 _ _ _ r1
 have p1:=cell_of_row _ _ 1 _ _ _ r0
 have q1:=cell_of_row _ _ 1 _ _ _ r1
 have p2:=cell_of_row _ _ 2 _ _ _ r0
 have q2:=cell_of_row _ _ 2 _ _ _ r1
 have p3:=cell_of_row _ _ 3 _ _ _ r0
 have q3:=cell_of_row _ _ 3 _ _ _ r1
 have p4:=cell_of_row _ _ 4 _ _ _ r0
 have q4:=cell_of_row _ _ 4 _ _ _ r1
 have p5:=cell_of_row _ _ 5 _ _ _ r0
 have q5:=cell_of_row _ _ 5 _ _ _ r1
 clear r0 r1 r2 r3
 ·have HR:=Ld (show R = Lib.compareBytes xt.data.toList yt.data.toList by rw [HO.out,if_neg (by decide),if_neg (by decide),if_neg (by decide),if_pos rfl])
  clear HO HEX HEY
  obtain ⟨b1,hb1⟩ : ∃ b,Op.bytesLess xt.toList yt.toList = b:=⟨_,rfl⟩
  obtain ⟨b2,hb2⟩ : ∃ b,(xt.toList == yt.toList) = b:=⟨_,rfl⟩
  have HV:=Ld (show R = (if b1 = true then -1 else if b2 = true then 0 else 1 : Int) by rw [HR.out,← hb1,← hb2,ByteArray.toList_eq,ByteArray.toList_eq];exact cmpB_eq _ _)
  clear HR
  cases b1 <;> cases b2
  all_goals
   go_wp2_with (go_at_call 114;go_must (refine (sign_c _ _ _).mono ?_;rintro e w1 ⟨rfl,rfl⟩))
   go_ret
   exact ⟨ret_eq (by rw [HV.out];rfl),HB0.out⟩
theorem refOrd6_c [Inhabited Thr] (s : Nat) (IH : RowsIH s) (x y : VI) (w : World) (hs : SizeOf.sizeOf x.l ≤ s) (hX : RdV w x) (hY : RdV w y) (hox : okI x.data = true) (hoy : okI y.data = true) (hk1 : x.k = 6) (hk2 : y.k = 6) :
 Calls Tryz.prog 115 #[x.val,y.val] w fun e w' => e = .returned (.int .i64 (ordI x.data y.data)) ∧ Below w.heap.size w w':=by
 have HX:=Ld hX
 have HY:=Ld hY
 have HIH:=Ld IH
 have HSX:=Ld hs
 obtain ⟨hkx,hlx,hex⟩:=ok_kind hox
 obtain ⟨hky,hly,hey⟩:=ok_kind hoy
 have HLX:=Ld hlx
 have HLY:=Ld hly
 have hxf:=hX.hf
 have hyf:=hY.hf
 have HEX:=Ld hex
 have HEY:=Ld hey
 clear hX hY hs IH hox hoy hlx hly hex hey
 rcases x with ⟨xk,xb,xn,xf,xt,xA,xc,xl⟩
 rcases y with ⟨yk,yb,yn,yf,yt,yA,yc,yl⟩
 have HO:=Ld (ordI_mk xk xn xb xf xt xA xc xl yk yn yb yf yt yA yc yl)
 obtain ⟨R,hR⟩ : ∃ R,ordI (VI.mk xk xb xn xf xt xA xc xl).data (VI.mk yk yb yn yf yt yA yc yl).data = R:=⟨_,rfl⟩
 rw [hR] at HO ⊢
 simp only [VI.val,VI.k,VI.b,VI.n,VI.f,VI.t,VI.A,VI.c,VI.l] at HSX HLX HLY HEX HEY hkx hky hxf hyf hk1 hk2 ⊢
 clear hR hkx hky
 subst hk1 hk2
 rw [if_neg (by simp)] at HO
 obtain ⟨W0,hW0⟩ : ∃ W0,(w.alloc (.cells (c6 6 xb xn xf xt xA xl.length xc) 54)).alloc (.cells (c6 6 yb yn yf yt yA yl.length yc) 54) = W0:=⟨_,rfl⟩
 have HW0:=Ld hW0
 have HBX:=Ld (fun W (h : Below (w.heap.size + 2) W0 W) => boxes_ii (hW0 ▸ h))
 have HS0:=Ld (show W0.heap.size = w.heap.size + 2 by rw [← hW0];simp)
 have HB0:=Ld (show Below w.heap.size w W0 by rw [← hW0];exact two_below w _ _)
 clear hW0
 have HFX:=Ld hxf
 have HFY:=Ld hyf
 clear hxf hyf
 go_enter Tryz.func115,Tryz.ntmps115
 go_upto_region 1 with fail
 rw [show (w.alloc (.cells #[.int .u8 6,.bool xb,.int .i64 xn,.float .f64 xf,.string xt,.slice xA xl.length xc] 54)).alloc (.cells #[.int .u8 6,.bool yb,.int .i64 yn,.float .f64 yf,.string yt,.slice yA yl.length yc] 54) = W0 from HW0.out]
 obtain ⟨r0,r1,r2,r3⟩:=HBX.out W0 (Below.refl _ _)
 have p0:=cell_of_row _ _ 0 _ _ _ r0
 have q0:=cell_of_row _ _ 0 _ _ _ r1
 have p1:=cell_of_row _ _ 1 _ _ _ r0
 have q1:=cell_of_row _ _ 1 _ _ _ r1
 have p2:=cell_of_row _ _ 2 _ _ _ r0
 have q2:=cell_of_row _ _ 2 _ _ _ r1
 have p3:=cell_of_row _ _ 3 _ _ _ r0
 have q3:=cell_of_row _ _ 3 _ _ _ r1
 have p4:=cell_of_row _ _ 4 _ _ _ r0
 have q4:=cell_of_row _ _ 4 _ _ _ r1
 have p5:=cell_of_row _ _ 5 _ _ _ r0
 have q5:=cell_of_row _ _ 5 _ _ _ r1
 clear r0 r1 r2 r3
 ·have HR:=Ld (show R = ordL (VI.dataL xl) (VI.dataL yl) by rw [HO.out,if_neg (by decide),if_neg (by decide),if_neg (by decide),if_neg (by decide)])
  have HXL:=Ld (show RdI w xA xc xl from HX.out.list)
  have HYL:=Ld (show RdI w yA yc yl from HY.out.list)
  clear HO HEX HEY
  go_wp2_with (go_at_call 134;go_must (refine (HIH.out xl yl xA yA xc yc _ HSX.out (HXL.out.below HB0.out) (HYL.out.below HB0.out) HLX.out HLY.out).mono ?_;rintro e w1 ⟨rfl,hb⟩;have HB1:=Ld hb;clear hb))
  go_ret
  exact ⟨ret_eq (by rw [HR.out];rfl),HB0.out.trans (HB1.out.mono HB0.out.size)⟩
theorem refOrdN_c [Inhabited Thr] (s : Nat) (IH : RowsIH s) (x y : VI) (w : World) (hs : SizeOf.sizeOf x.l ≤ s) (hX : RdV w x) (hY : RdV w y) (hox : okI x.data = true) (hoy : okI y.data = true) (hk : x.k ≠ y.k) :
 Calls Tryz.prog 115 #[x.val,y.val] w fun e w' => e = .returned (.int .i64 (ordI x.data y.data)) ∧ Below w.heap.size w w':=by
 have HX:=Ld hX
 have HY:=Ld hY
 have HIH:=Ld IH
 have HSX:=Ld hs
 obtain ⟨hkx,hlx,hex⟩:=ok_kind hox
 obtain ⟨hky,hly,hey⟩:=ok_kind hoy
 have HLX:=Ld hlx
 have HLY:=Ld hly
 have hxf:=hX.hf
 have hyf:=hY.hf
 have HEX:=Ld hex
 have HEY:=Ld hey
 clear hX hY hs IH hox hoy hlx hly hex hey
 rcases x with ⟨xk,xb,xn,xf,xt,xA,xc,xl⟩
 rcases y with ⟨yk,yb,yn,yf,yt,yA,yc,yl⟩
 have HO:=Ld (ordI_mk xk xn xb xf xt xA xc xl yk yn yb yf yt yA yc yl)
 obtain ⟨R,hR⟩ : ∃ R,ordI (VI.mk xk xb xn xf xt xA xc xl).data (VI.mk yk yb yn yf yt yA yc yl).data = R:=⟨_,rfl⟩
 rw [hR] at HO ⊢
 simp only [VI.val,VI.k,VI.b,VI.n,VI.f,VI.t,VI.A,VI.c,VI.l] at HSX HLX HLY HEX HEY hkx hky hxf hyf hk ⊢
 clear hR
 obtain ⟨W0,hW0⟩ : ∃ W0,(w.alloc (.cells (c6 xk xb xn xf xt xA xl.length xc) 54)).alloc (.cells (c6 yk yb yn yf yt yA yl.length yc) 54) = W0:=⟨_,rfl⟩
 have HW0:=Ld hW0
 have HBX:=Ld (fun W (h : Below (w.heap.size + 2) W0 W) => boxes_ii (hW0 ▸ h))
 have HS0:=Ld (show W0.heap.size = w.heap.size + 2 by rw [← hW0];simp)
 have HB0:=Ld (show Below w.heap.size w W0 by rw [← hW0];exact two_below w _ _)
 clear hW0
 have HFX:=Ld hxf
 have HFY:=Ld hyf
 clear hxf hyf
 go_enter Tryz.func115,Tryz.ntmps115
 go_upto_region 1 with fail
 rw [show (w.alloc (.cells #[.int .u8 xk,.bool xb,.int .i64 xn,.float .f64 xf,.string xt,.slice xA xl.length xc] 54)).alloc (.cells #[.int .u8 yk,.bool yb,.int .i64 yn,.float .f64 yf,.string yt,.slice yA yl.length yc] 54) = W0 from HW0.out]
 obtain ⟨r0,r1,r2,r3⟩:=HBX.out W0 (Below.refl _ _)
 have p0:=cell_of_row _ _ 0 _ _ _ r0
 have q0:=cell_of_row _ _ 0 _ _ _ r1
 have p1:=cell_of_row _ _ 1 _ _ _ r0
 have q1:=cell_of_row _ _ 1 _ _ _ r1
 have p2:=cell_of_row _ _ 2 _ _ _ r0
 have q2:=cell_of_row _ _ 2 _ _ _ r1
 have p3:=cell_of_row _ _ 3 _ _ _ r0
 have q3:=cell_of_row _ _ 3 _ _ _ r1
 have p4:=cell_of_row _ _ 4 _ _ _ r0
 have q4:=cell_of_row _ _ 4 _ _ _ r1
 have p5:=cell_of_row _ _ 5 _ _ _ r0
 have q5:=cell_of_row _ _ 5 _ _ _ r1
 clear r0 r1 r2 r3
 ·have HR:=Ld (show R = cmpZ xk yk by rw [HO.out,if_pos hk])
  have hb0 : (xk != yk) = true:=by simpa using hk
  clear HO HEX HEY
  by_cases hlt : xk < yk
  ·have HV:=Ld (show cmpZ xk yk = -1 from if_pos hlt)
   go_wp2_with (go_at_call 114;go_must (refine (sign_c _ _ _).mono ?_;rintro e w1 ⟨rfl,rfl⟩))
   go_ret
   exact ⟨ret_eq (by rw [HR.out,HV.out];rfl),HB0.out⟩
  ·have HV:=Ld (show cmpZ xk yk = 1 by rw [cmpZ,if_neg hlt,if_pos (by omega)])
   go_wp2_with (go_at_call 114;go_must (refine (sign_c _ _ _).mono ?_;rintro e w1 ⟨rfl,rfl⟩))
   go_ret
   exact ⟨ret_eq (by rw [HR.out,HV.out];rfl),HB0.out⟩
theorem refOrder_c [Inhabited Thr] (s : Nat) (IH : RowsIH s) (x y : VI) (w : World) (hs : SizeOf.sizeOf x.l ≤ s) (hX : RdV w x) (hY : RdV w y) (hox : okI x.data = true) (hoy : okI y.data = true) :
 Calls Tryz.prog 115 #[x.val,y.val] w fun e w' => e = .returned (.int .i64 (ordI x.data y.data)) ∧ Below w.heap.size w w':=by
 by_cases hk : x.k = y.k
 ·obtain ⟨hkx,_,_⟩:=ok_kind hox
  rcases (show x.k = 1 ∨ x.k = 2 ∨ x.k = 3 ∨ x.k = 4 ∨ x.k = 5 ∨ x.k = 6 by omega) with h | h | h | h | h | h
  ·exact refOrd1_c s IH x y w hs hX hY hox hoy h (hk ▸ h)
  ·exact refOrd2_c s IH x y w hs hX hY hox hoy h (hk ▸ h)
  ·exact refOrd3_c s IH x y w hs hX hY hox hoy h (hk ▸ h)
  ·exact refOrd4_c s IH x y w hs hX hY hox hoy h (hk ▸ h)
  ·exact refOrd5_c s IH x y w hs hX hY hox hoy h (hk ▸ h)
  ·exact refOrd6_c s IH x y w hs hX hY hox hoy h (hk ▸ h)
 ·exact refOrdN_c s IH x y w hs hX hY hox hoy hk
theorem cmpZ_sub (a b k : Nat) (ha : k ≤ a) (hb : k ≤ b) : cmpZ ((a - k : Nat) : Int) ((b - k : Nat) : Int) = cmpZ a b:=by
 unfold cmpZ
 by_cases h1 : (a : Int) < b
 ·rw [if_pos h1,if_pos (by omega)]
 ·rw [if_neg h1,if_neg (by omega)]
  by_cases h2 : (b : Int) < a
  ·rw [if_pos h2,if_pos (by omega)]
  ·rw [if_neg h2,if_neg (by omega)]
theorem refRows_c [Inhabited Thr] : ∀ s,RowsIH s:=by
 intro s
 induction s with
 | zero => intro l l' A A' c c' w hs;exfalso;cases l <;> simp at hs
 | succ s ih =>
 intro l m A B c d w hs hL hM hol hom
 have HIH:=Ld ih
 have HS:=Ld hs
 have HL:=Ld hL
 have HM:=Ld hM
 have HOL:=Ld hol
 have HOM:=Ld hom
 have hlb:=hL.hb
 have hmb:=hM.hb
 have HLL:=Ld (show (VI.dataL l).length = l.length by rw [dataL_eq,List.length_map])
 have HLM:=Ld (show (VI.dataL m).length = m.length by rw [dataL_eq,List.length_map])
 obtain ⟨R,hR⟩ : ∃ R,ordL (VI.dataL l) (VI.dataL m) = R:=⟨_,rfl⟩
 have HR:=Ld hR
 rw [hR]
 clear ih hs hL hM hol hom hR
 go_enter Tryz.func134,Tryz.ntmps134
 go_wp2
 go_loopw [5] (fun i wr => ∃ (k : Nat),k ≤ l.length ∧ k ≤ m.length ∧ i = .int .i64 k ∧ Hid (ordL ((VI.dataL l).drop k) ((VI.dataL m).drop k) = R) ∧ Hid (Below w.heap.size w wr)) (fun i _ => l.length - (intOf i).toNat)
 case atStart => exact ⟨0,Nat.zero_le _,Nat.zero_le _,rfl,HR,Ld (Below.refl _ _)⟩
 case round =>
  obtain ⟨k,hk,hkm,rfl,hr,hB⟩:=hrel
  by_cases hlt : k < l.length
  ·by_cases hlm : k < m.length
   ·have HLr:=Ld (HL.out.below hB.out)
    have HMr:=Ld (HM.out.below hB.out)
    obtain ⟨ab,ao,rfl⟩ : ∃ ab ao,A = some ⟨ab,ao,none⟩:=by obtain ⟨b,o,e,_⟩:=HLr.out.rd.2 (by omega);exact ⟨b,o,e⟩
    obtain ⟨bb,bo,rfl⟩ : ∃ ab ao,B = some ⟨ab,ao,none⟩:=by obtain ⟨b,o,e,_⟩:=HMr.out.rd.2 (by omega);exact ⟨b,o,e⟩
    have HIT:=Ld (fun W (h : Below wr.heap.size wr W) => item_at (HLr.out.below h).rd hlt)
    have HIU:=Ld (fun W (h : Below wr.heap.size wr W) => item_at (HMr.out.below h).rd hlm)
    have HX:=Ld (HLr.out.hx _ (List.getElem_mem hlt))
    have HY:=Ld (HMr.out.hx _ (List.getElem_mem hlm))
    have HSX:=Ld (show SizeOf.sizeOf l[k].l ≤ s by have h1:=sz_lt (List.getElem_mem hlt);have h2:=HS.out;have h3:=sz_list l[k];omega)
    have HOX:=Ld (okL_get l k hlt HOL.out)
    have HOY:=Ld (okL_get m k hlm HOM.out)
    have HD:=Ld (ordL_drop (VI.dataL l) (VI.dataL m) k (by rw [HLL.out];exact hlt) (by rw [HLM.out];exact hlm))
    rw [data_at l k hlt,data_at m k hlm,hr.out] at HD
    obtain ⟨x,hx⟩ : ∃ y,l[k] = y:=⟨_,rfl⟩
    obtain ⟨y,hy⟩ : ∃ y,m[k] = y:=⟨_,rfl⟩
    simp only [hx] at HIT HX HSX HOX HD
    simp only [hy] at HIU HY HOY HD
    clear hx hy
    obtain ⟨o,ho⟩ : ∃ o,ordI x.data y.data = o:=⟨_,rfl⟩
    have HC:=Ld (fun W h1 h2 => refOrder_c s HIH.out x y W HSX.out h1 h2 HOX.out HOY.out)
    simp only [ho] at HC HD
    clear ho
    rcases x with ⟨xk,xb,xn,xf,xt,xA,xc,xl⟩
    rcases y with ⟨yk,yb,yn,yf,yt,yA,yc,yl⟩
    simp only [VI.val,VI.k,VI.b,VI.n,VI.f,VI.t,VI.A,VI.c,VI.l] at HIT HIU HC
    go_upto_region 4 with fail
    refine wp_region_sched (S:=fun W => Below wr.heap.size wr W) [(0,true),(1,true),(2,true),(3,true),(4,true),(5,true),(6,true),(7,true),(8,false),(9,true)] (by kernel_rfl) (by kernel_rfl) (by kernel_rfl) (fun _ _ d _ _ h => by cases d <;> exact h) (Below.refl _ _).drew ?_
    repeat (apply sched_take;(exact rfl);rfl;(intro W hW;obtain ⟨p0,p1,p2,p3,p4,p5⟩:=HIT.out W hW;obtain ⟨q0,q1,q2,q3,q4,q5⟩:=HIU.out W hW;go_simp;(try with_reducible rfl));simp only [Act.put,List.setIfInBounds_toArray,List.set_cons_zero,List.set_cons_succ])
    apply sched_run;(exact rfl);rfl;intro K hK;go_simp
    have hbd:=(Below.refl wr.heap.size wr).drew
    refine (HC.out _ (HX.out.grow hbd) (HY.out.grow hbd)).mono ?_
    rintro e V1 ⟨rfl,hb⟩
    have HB1:=Ld (hbd.trans (hb.mono (show wr.heap.size ≤ _ from hbd.size)))
    clear hbd hb
    refine hK.out _ _ HB1.out (fun _ => ?_)
    clear hK K
    try simp only [Act.put,List.setIfInBounds_toArray,List.set_cons_zero,List.set_cons_succ]
    repeat (apply sched_take;(exact rfl);rfl;(intro W hW;go_simp;(try with_reducible rfl));simp only [Act.put,List.setIfInBounds_toArray,List.set_cons_zero,List.set_cons_succ])
    refine sched_done ?_
    by_cases h0 : o = 0
    ·have e0 : (o != 0) = false:=by simp [h0]
     rw [if_neg (by simp [h0])] at HD
     clear h0
     go_wp2
     exact ⟨⟨k + 1,by omega,by omega,by go_num,Ld HD.out.symm,Ld (hB.out.trans (HB1.out.mono hB.out.size))⟩,by simp [intOf];omega⟩
    ·have e0 : (o != 0) = true:=by simp [h0]
     rw [if_pos h0] at HD
     clear h0
     go_wp2
     go_ret
     exact ⟨ret_eq (by rw [HD.out];rfl),hB.out.trans (HB1.out.mono hB.out.size)⟩
   ·have HE:=Ld (show R = cmpZ l.length m.length by
      rw [← hr.out,ordL_end _ _ (.inr (by rw [List.length_drop,HLM.out];omega)),List.length_drop,List.length_drop,HLL.out,HLM.out];exact cmpZ_sub _ _ _ hk hkm)
    obtain ⟨b1,hb1⟩ : ∃ b,decide (l.length < m.length) = b:=⟨_,rfl⟩
    obtain ⟨b2,hb2⟩ : ∃ b,decide (m.length < l.length) = b:=⟨_,rfl⟩
    have hc1 : decide ((l.length : Int) < (m.length : Int)) = b1:=by rw [← hb1];exact decide_eq_decide.2 (by omega)
    have hc2 : decide ((m.length : Int) < (l.length : Int)) = b2:=by rw [← hb2];exact decide_eq_decide.2 (by omega)
    have HV:=Ld (show (if b1 = true then -1 else if b2 = true then 1 else 0 : Int) = cmpZ l.length m.length by rw [← sign_cmp,hc1,hc2])
    go_wp2_with (go_at_call 114;go_must (refine (sign_c b1 b2 _).mono ?_;rintro e w1 ⟨rfl,rfl⟩;rw [HV.out]))
    go_ret
    exact ⟨ret_eq (by rw [HE.out];rfl),hB.out⟩
  ·have HE:=Ld (show R = cmpZ l.length m.length by
     rw [← hr.out,ordL_end _ _ (.inl (by rw [List.length_drop,HLL.out];omega)),List.length_drop,List.length_drop,HLL.out,HLM.out];exact cmpZ_sub _ _ _ hk hkm)
   obtain ⟨b1,hb1⟩ : ∃ b,decide (l.length < m.length) = b:=⟨_,rfl⟩
   obtain ⟨b2,hb2⟩ : ∃ b,decide (m.length < l.length) = b:=⟨_,rfl⟩
   have hc1 : decide ((l.length : Int) < (m.length : Int)) = b1:=by rw [← hb1];exact decide_eq_decide.2 (by omega)
   have hc2 : decide ((m.length : Int) < (l.length : Int)) = b2:=by rw [← hb2];exact decide_eq_decide.2 (by omega)
   have HV:=Ld (show (if b1 = true then -1 else if b2 = true then 1 else 0 : Int) = cmpZ l.length m.length by rw [← sign_cmp,hc1,hc2])
   go_wp2_with (go_at_call 114;go_must (refine (sign_c b1 b2 _).mono ?_;rintro e w1 ⟨rfl,rfl⟩;rw [HV.out]))
   go_ret
   exact ⟨ret_eq (by rw [HE.out];rfl),hB.out⟩
theorem refCompare_c [Inhabited Thr] (x y : VI) (w : World) (hX : RdV w x) (hY : RdV w y) : Calls Tryz.prog 82 #[x.val,y.val] w fun e w' => e = .returned (.int .i64 (cmpI x.data y.data)) ∧ Below w.heap.size w w':=by
 have HX:=Ld hX
 have HY:=Ld hY
 have ex : VI.dataL [x] = [x.data]:=by simp only [VI.dataL]
 have ey : VI.dataL [y] = [y.data]:=by simp only [VI.dataL]
 obtain ⟨cx,hcx⟩ : ∃ n,chkL (VI.dataL [x]) = n:=⟨_,rfl⟩
 obtain ⟨cy,hcy⟩ : ∃ n,chkL (VI.dataL [y]) = n:=⟨_,rfl⟩
 have HCX:=Ld hcx
 have HCY:=Ld hcy
 have HC:=Ld (show cmpI x.data y.data = if cx ≠ 0 ∨ cy ≠ 0 then cmpZ x.k y.k else ordI x.data y.data by
  rw [cmpI,← hcx,← hcy,ex,ey,data_k,data_k])
 have HOK:=Ld (fun (h : cx = 0) (h' : cy = 0) => refOrder_c (SizeOf.sizeOf x.l) (refRows_c _) x y)
 have HOX:=Ld (fun (h : cx = 0) => show okI x.data = true by have:=(chk_ok [x] (hcx.trans h)).1;rw [VI.dataL,okL_cons,Bool.and_eq_true] at this;exact this.1)
 have HOY:=Ld (fun (h : cy = 0) => show okI y.data = true by have:=(chk_ok [y] (hcy.trans h)).1;rw [VI.dataL,okL_cons,Bool.and_eq_true] at this;exact this.1)
 obtain ⟨R,hR⟩ : ∃ n,cmpI x.data y.data = n:=⟨_,rfl⟩
 obtain ⟨O,hO⟩ : ∃ n,ordI x.data y.data = n:=⟨_,rfl⟩
 rw [hR,hO] at HC
 rw [hR]
 simp only [hO] at HOK
 clear hcx hcy hX hY hR hO ex ey
 rcases x with ⟨xk,xb,xn,xf,xt,xA,xc,xl⟩
 rcases y with ⟨yk,yb,yn,yf,yt,yA,yc,yl⟩
 simp only [VI.val,VI.k,VI.b,VI.n,VI.f,VI.t,VI.A,VI.c,VI.l] at HC HOK ⊢
 obtain ⟨W0,hW0⟩ : ∃ W0,(w.alloc (.cells (c6 xk xb xn xf xt xA xl.length xc) 54)).alloc (.cells (c6 yk yb yn yf yt yA yl.length yc) 54) = W0:=⟨_,rfl⟩
 have HW0:=Ld hW0
 have HBX:=Ld (fun W (h : Below (w.heap.size + 2) W0 W) => boxes_ii (hW0 ▸ h))
 have HS0:=Ld (show W0.heap.size = w.heap.size + 2 by rw [← hW0];simp)
 have HB0:=Ld (show Below w.heap.size w W0 by rw [← hW0];exact two_below w _ _)
 clear hW0
 go_enter Tryz.func82,Tryz.ntmps82
 go_upto_region 1 with fail
 rw [show (w.alloc (.cells #[.int .u8 xk,.bool xb,.int .i64 xn,.float .f64 xf,.string xt,.slice xA xl.length xc] 54)).alloc (.cells #[.int .u8 yk,.bool yb,.int .i64 yn,.float .f64 yf,.string yt,.slice yA yl.length yc] 54) = W0 from HW0.out]
 obtain ⟨r0,r1,r2,r3⟩:=HBX.out W0 (Below.refl _ _)
 have p0:=cell_of_row _ _ 0 _ _ _ r0
 have q0:=cell_of_row _ _ 0 _ _ _ r1
 have p1:=cell_of_row _ _ 1 _ _ _ r0
 have q1:=cell_of_row _ _ 1 _ _ _ r1
 have p2:=cell_of_row _ _ 2 _ _ _ r0
 have q2:=cell_of_row _ _ 2 _ _ _ r1
 have p3:=cell_of_row _ _ 3 _ _ _ r0
 have q3:=cell_of_row _ _ 3 _ _ _ r1
 have p4:=cell_of_row _ _ 4 _ _ _ r0
 have q4:=cell_of_row _ _ 4 _ _ _ r1
 have p5:=cell_of_row _ _ 5 _ _ _ r0
 have q5:=cell_of_row _ _ 5 _ _ _ r1
 clear r0 r1 r2 r3
 by_cases h1 : cx = 0
 ·have e1 : ((cx : Int) != 0) = false:=by simp [h1]
  by_cases h2 : cy = 0
  ·have e2 : ((cy : Int) != 0) = false:=by simp [h2]
   rw [if_neg (by omega)] at HC
   have HO1:=Ld (HOX.out h1)
   have HO2:=Ld (HOY.out h2)
   have HOO:=Ld (HOK.out h1 h2)
   clear HOX HOY HOK h1 h2
   go_wp2_with (first
    | (go_at_call 64;go_loud (refine (refCheck_c _ 1 [VI.mk yk yb yn yf yt yA yc yl] _ (one_rd' (cs:=#[.int .u8 yk,.bool yb,.int .i64 yn,.float .f64 yf,.string yt,.slice yA yl.length yc]) (HY.out) w1 HV1.out rfl rfl rfl)).mono ?_;rw [HCY.out];rintro e w2 ⟨rfl,hb⟩;have HU2:=Ld (HU1.out.trans (((Below.refl _ w1).alloc (Nat.le_refl _) (.cells #[.int .u8 yk,.bool yb,.int .i64 yn,.float .f64 yf,.string yt,.slice yA yl.length yc] 54)).trans (hb.mono (by simp)) |>.mono (by have:=HU1.out.size;rw [HS0.out] at this;exact this)));clear hb p0 p1 p2 p3 p4 p5 q0 q1 q2 q3 q4 q5;obtain ⟨r0,r1,r2,r3⟩:=HBX.out w2 HU2.out;have p0:=cell_of_row _ _ 0 _ _ _ r0;have q0:=cell_of_row _ _ 0 _ _ _ r1;have p1:=cell_of_row _ _ 1 _ _ _ r0;have q1:=cell_of_row _ _ 1 _ _ _ r1;have p2:=cell_of_row _ _ 2 _ _ _ r0;have q2:=cell_of_row _ _ 2 _ _ _ r1;have p3:=cell_of_row _ _ 3 _ _ _ r0;have q3:=cell_of_row _ _ 3 _ _ _ r1;have p4:=cell_of_row _ _ 4 _ _ _ r0;have q4:=cell_of_row _ _ 4 _ _ _ r1;have p5:=cell_of_row _ _ 5 _ _ _ r0;have q5:=cell_of_row _ _ 5 _ _ _ r1;have HV2:=Ld r3;clear r0 r1 r2 r3))
    | (go_at_call 64;go_loud (refine (refCheck_c _ 1 [VI.mk xk xb xn xf xt xA xc xl] _ (one_rd' (cs:=#[.int .u8 xk,.bool xb,.int .i64 xn,.float .f64 xf,.string xt,.slice xA xl.length xc]) (HX.out) W0 HB0.out rfl rfl rfl)).mono ?_;rw [HCX.out];rintro e w1 ⟨rfl,hb⟩;have HU1:=Ld ((Below.refl (w.heap.size + 2) W0).trans (((Below.refl _ W0).alloc (Nat.le_refl _) (.cells #[.int .u8 xk,.bool xb,.int .i64 xn,.float .f64 xf,.string xt,.slice xA xl.length xc] 54)).trans (hb.mono (by simp)) |>.mono (by exact Nat.le_of_eq HS0.out.symm)));clear hb p0 p1 p2 p3 p4 p5 q0 q1 q2 q3 q4 q5;obtain ⟨r0,r1,r2,r3⟩:=HBX.out w1 HU1.out;have p0:=cell_of_row _ _ 0 _ _ _ r0;have q0:=cell_of_row _ _ 0 _ _ _ r1;have p1:=cell_of_row _ _ 1 _ _ _ r0;have q1:=cell_of_row _ _ 1 _ _ _ r1;have p2:=cell_of_row _ _ 2 _ _ _ r0;have q2:=cell_of_row _ _ 2 _ _ _ r1;have p3:=cell_of_row _ _ 3 _ _ _ r0;have q3:=cell_of_row _ _ 3 _ _ _ r1;have p4:=cell_of_row _ _ 4 _ _ _ r0;have q4:=cell_of_row _ _ 4 _ _ _ r1;have p5:=cell_of_row _ _ 5 _ _ _ r0;have q5:=cell_of_row _ _ 5 _ _ _ r1;have HV1:=Ld r3;clear r0 r1 r2 r3))
    | (go_at_call 115;go_must (refine (HOO.out _ (Nat.le_refl _) (HX.out.grow HV2.out) (HY.out.grow HV2.out) HO1.out HO2.out).mono ?_;rintro e w3 ⟨rfl,hb⟩;have HV3:=Ld (HV2.out.trans (hb.mono HV2.out.size));clear hb)))
   go_ret
   exact ⟨ret_eq (by rw [HC.out];rfl),HV3.out⟩
  ·have e2 : ((cy : Int) != 0) = true:=by simp [h2]
   rw [if_pos (.inr h2)] at HC
   clear HOX HOY HOK h1 h2
   obtain ⟨b1,hb1⟩ : ∃ b,decide (xk < yk) = b:=⟨_,rfl⟩
   obtain ⟨b2,hb2⟩ : ∃ b,decide (yk < xk) = b:=⟨_,rfl⟩
   have HV:=Ld (show (if b1 = true then -1 else if b2 = true then 1 else 0 : Int) = cmpZ xk yk by rw [← hb1,← hb2];exact sign_cmp xk yk)
   go_wp2_with (first
    | (go_at_call 64;go_loud (refine (refCheck_c _ 1 [VI.mk yk yb yn yf yt yA yc yl] _ (one_rd' (cs:=#[.int .u8 yk,.bool yb,.int .i64 yn,.float .f64 yf,.string yt,.slice yA yl.length yc]) (HY.out) w1 HV1.out rfl rfl rfl)).mono ?_;rw [HCY.out];rintro e w2 ⟨rfl,hb⟩;have HU2:=Ld (HU1.out.trans (((Below.refl _ w1).alloc (Nat.le_refl _) (.cells #[.int .u8 yk,.bool yb,.int .i64 yn,.float .f64 yf,.string yt,.slice yA yl.length yc] 54)).trans (hb.mono (by simp)) |>.mono (by have:=HU1.out.size;rw [HS0.out] at this;exact this)));clear hb p0 p1 p2 p3 p4 p5 q0 q1 q2 q3 q4 q5;obtain ⟨r0,r1,r2,r3⟩:=HBX.out w2 HU2.out;have p0:=cell_of_row _ _ 0 _ _ _ r0;have q0:=cell_of_row _ _ 0 _ _ _ r1;have p1:=cell_of_row _ _ 1 _ _ _ r0;have q1:=cell_of_row _ _ 1 _ _ _ r1;have p2:=cell_of_row _ _ 2 _ _ _ r0;have q2:=cell_of_row _ _ 2 _ _ _ r1;have p3:=cell_of_row _ _ 3 _ _ _ r0;have q3:=cell_of_row _ _ 3 _ _ _ r1;have p4:=cell_of_row _ _ 4 _ _ _ r0;have q4:=cell_of_row _ _ 4 _ _ _ r1;have p5:=cell_of_row _ _ 5 _ _ _ r0;have q5:=cell_of_row _ _ 5 _ _ _ r1;have HV2:=Ld r3;clear r0 r1 r2 r3))
    | (go_at_call 64;go_loud (refine (refCheck_c _ 1 [VI.mk xk xb xn xf xt xA xc xl] _ (one_rd' (cs:=#[.int .u8 xk,.bool xb,.int .i64 xn,.float .f64 xf,.string xt,.slice xA xl.length xc]) (HX.out) W0 HB0.out rfl rfl rfl)).mono ?_;rw [HCX.out];rintro e w1 ⟨rfl,hb⟩;have HU1:=Ld ((Below.refl (w.heap.size + 2) W0).trans (((Below.refl _ W0).alloc (Nat.le_refl _) (.cells #[.int .u8 xk,.bool xb,.int .i64 xn,.float .f64 xf,.string xt,.slice xA xl.length xc] 54)).trans (hb.mono (by simp)) |>.mono (by exact Nat.le_of_eq HS0.out.symm)));clear hb p0 p1 p2 p3 p4 p5 q0 q1 q2 q3 q4 q5;obtain ⟨r0,r1,r2,r3⟩:=HBX.out w1 HU1.out;have p0:=cell_of_row _ _ 0 _ _ _ r0;have q0:=cell_of_row _ _ 0 _ _ _ r1;have p1:=cell_of_row _ _ 1 _ _ _ r0;have q1:=cell_of_row _ _ 1 _ _ _ r1;have p2:=cell_of_row _ _ 2 _ _ _ r0;have q2:=cell_of_row _ _ 2 _ _ _ r1;have p3:=cell_of_row _ _ 3 _ _ _ r0;have q3:=cell_of_row _ _ 3 _ _ _ r1;have p4:=cell_of_row _ _ 4 _ _ _ r0;have q4:=cell_of_row _ _ 4 _ _ _ r1;have p5:=cell_of_row _ _ 5 _ _ _ r0;have q5:=cell_of_row _ _ 5 _ _ _ r1;have HV1:=Ld r3;clear r0 r1 r2 r3))
    | (go_at_call 114;go_must (refine (sign_c _ _ _).mono ?_;rintro e w9 ⟨rfl,rfl⟩;rw [HV.out])))
   go_ret
   exact ⟨ret_eq (by rw [HC.out];rfl),HV2.out⟩
 ·have e1 : ((cx : Int) != 0) = true:=by simp [h1]
  rw [if_pos (.inl h1)] at HC
  clear HOX HOY HOK h1
  obtain ⟨b1,hb1⟩ : ∃ b,decide (xk < yk) = b:=⟨_,rfl⟩
  obtain ⟨b2,hb2⟩ : ∃ b,decide (yk < xk) = b:=⟨_,rfl⟩
  have HV:=Ld (show (if b1 = true then -1 else if b2 = true then 1 else 0 : Int) = cmpZ xk yk by rw [← hb1,← hb2];exact sign_cmp xk yk)
  go_wp2_with (first
   | (go_at_call 64;go_loud (refine (refCheck_c _ 1 [VI.mk xk xb xn xf xt xA xc xl] _ (one_rd' (cs:=#[.int .u8 xk,.bool xb,.int .i64 xn,.float .f64 xf,.string xt,.slice xA xl.length xc]) (HX.out) W0 HB0.out rfl rfl rfl)).mono ?_;rw [HCX.out];rintro e w1 ⟨rfl,hb⟩;have HU1:=Ld ((Below.refl (w.heap.size + 2) W0).trans (((Below.refl _ W0).alloc (Nat.le_refl _) (.cells #[.int .u8 xk,.bool xb,.int .i64 xn,.float .f64 xf,.string xt,.slice xA xl.length xc] 54)).trans (hb.mono (by simp)) |>.mono (by exact Nat.le_of_eq HS0.out.symm)));clear hb p0 p1 p2 p3 p4 p5 q0 q1 q2 q3 q4 q5;obtain ⟨r0,r1,r2,r3⟩:=HBX.out w1 HU1.out;have p0:=cell_of_row _ _ 0 _ _ _ r0;have q0:=cell_of_row _ _ 0 _ _ _ r1;have p1:=cell_of_row _ _ 1 _ _ _ r0;have q1:=cell_of_row _ _ 1 _ _ _ r1;have p2:=cell_of_row _ _ 2 _ _ _ r0;have q2:=cell_of_row _ _ 2 _ _ _ r1;have p3:=cell_of_row _ _ 3 _ _ _ r0;have q3:=cell_of_row _ _ 3 _ _ _ r1;have p4:=cell_of_row _ _ 4 _ _ _ r0;have q4:=cell_of_row _ _ 4 _ _ _ r1;have p5:=cell_of_row _ _ 5 _ _ _ r0;have q5:=cell_of_row _ _ 5 _ _ _ r1;have HV1:=Ld r3;clear r0 r1 r2 r3))
   | (go_at_call 114;go_must (refine (sign_c _ _ _).mono ?_;rintro e w9 ⟨rfl,rfl⟩;rw [HV.out])))
  go_ret
  exact ⟨ret_eq (by rw [HC.out];rfl),HV1.out⟩
end
end Go.Proofs.YtonjgedhmmnolaaGreatDoor
