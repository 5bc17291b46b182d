import Derived.Test.YtajkoeodabmgeaaY3
namespace Go.Proofs.Ytajkoeodabmgeaa
open Go.RowKit
set_option maxHeartbeats 4000000
set_option maxRecDepth 100000
attribute [local go_sem] grow_cell grow_frozen grow_size

theorem st_branch_e1 (pg wd : Int) (x : VH) (L : NodeD) (s : ByteArray) (y : VH) (R : NodeD) (w : World) (hL : RdN w x.A0 x.c0 x.A1 x.c1 x.A2 x.c2 L) (hR : RdN w y.A0 y.c0 y.A1 y.c1 y.A2 y.c2 R) (_h0 : 0 ≤ pg) (_h1 : pg ≤ 8192) (_hsm : s.size ≤ 140737488355328) (k1 : (s.size : Int) < 1) :
    Calls Try.prog 109 #[vF pg wd, vH x L s y R] w fun e w' => e = .returned (.bool false) ∧ Below w.heap.size w w' := by
  have hlp := hL.hs
  have HL := Lib.hid (fun W (h : Below (stW w pg wd x L s y R).heap.size (stW w pg wd x L s y R) W) => (RdN.below hL st_base).below h)
  have HRD := Lib.hid (fun W (h : Below (stW w pg wd x L s y R).heap.size (stW w pg wd x L s y R) W) => (RdN.below hR st_base).below h)
  clear hL hR
  go_enter Try.func109, Try.ntmps109
  go_wp2
  go_ret
  exact ⟨rfl, ((Below.refl _ _).alloc (Nat.le_refl _) _).alloc (by simp) _⟩

theorem st_branch_e2 (pg wd : Int) (x : VH) (L : NodeD) (s : ByteArray) (y : VH) (R : NodeD) (w : World) (hL : RdN w x.A0 x.c0 x.A1 x.c1 x.A2 x.c2 L) (hR : RdN w y.A0 y.c0 y.A1 y.c1 y.A2 y.c2 R) (_h0 : 0 ≤ pg) (_h1 : pg ≤ 8192) (_hsm : s.size ≤ 140737488355328) (k1 : ¬ (s.size : Int) < 1) (k2 : pg / 16 < (s.size : Int)) :
    Calls Try.prog 109 #[vF pg wd, vH x L s y R] w fun e w' => e = .returned (.bool false) ∧ Below w.heap.size w w' := by
  have hlp := hL.hs
  have HL := Lib.hid (fun W (h : Below (stW w pg wd x L s y R).heap.size (stW w pg wd x L s y R) W) => (RdN.below hL st_base).below h)
  have HRD := Lib.hid (fun W (h : Below (stW w pg wd x L s y R).heap.size (stW w pg wd x L s y R) W) => (RdN.below hR st_base).below h)
  clear hL hR
  go_enter Try.func109, Try.ntmps109
  go_wp2
  go_ret
  exact ⟨rfl, ((Below.refl _ _).alloc (Nat.le_refl _) _).alloc (by simp) _⟩

theorem st_branch_b3 (pg wd : Int) (x : VH) (L : NodeD) (s : ByteArray) (y : VH) (R : NodeD) (w : World) (hL : RdN w x.A0 x.c0 x.A1 x.c1 x.A2 x.c2 L) (hR : RdN w y.A0 y.c0 y.A1 y.c1 y.A2 y.c2 R) (_h0 : 0 ≤ pg) (_h1 : pg ≤ 8192) (_hsm : s.size ≤ 140737488355328) (k1 : ¬ (s.size : Int) < 1) (k2 : ¬ pg / 16 < (s.size : Int)) (ho1 : L.pairs.length = 0) (ho2 : R.pairs.length = 0) (m : Nat) (hm : L.seps.length = m + 1) (lk : ByteArray) (hlk : sepAt L.seps m = lk) (ho : Op.bytesLess lk.toList s.toList = false) :
    Calls Try.prog 109 #[vF pg wd, vH x L s y R] w fun e w' => e = .returned (.bool false) ∧ Below w.heap.size w w' := by
  have hlp := hL.hs
  have HL := Lib.hid (fun W (h : Below (stW w pg wd x L s y R).heap.size (stW w pg wd x L s y R) W) => (RdN.below hL st_base).below h)
  have HRD := Lib.hid (fun W (h : Below (stW w pg wd x L s y R).heap.size (stW w pg wd x L s y R) W) => (RdN.below hR st_base).below h)
  have HM := Lib.hid hm
  have HLK := Lib.hid hlk
  have HO1 := Lib.hid ho1
  have HO2 := Lib.hid ho2
  clear hL hR hm hlk ho1 ho2
  go_enter Try.func109, Try.ntmps109
  go_wp2
  obtain ⟨W0, hW0⟩ : ∃ W0, W0 = stW w pg wd x L s y R := ⟨_, rfl⟩
  have HB0 : Hid (Below (stW w pg wd x L s y R).heap.size (stW w pg wd x L s y R) W0) := Lib.hid (by rw [hW0]; exact Below.refl _ _)
  simp only [stW, cells7, node3] at hW0
  rw [← hW0]
  clear hW0
  obtain ⟨⟨⟨s0, s1⟩, s2⟩, ⟨m0, m1⟩, ⟨n0, n1⟩, z0, z1, z2, z3⟩ := st_facts HB0.out
  rw [HO1.out] at m0
  have hm := HM.out
  obtain ⟨ab, ao, ax, ak⟩ := seps_at (HL.out _ HB0.out).seps (show m < L.seps.length by omega)
  rw [← sepAt_get (show m < L.seps.length by omega), HLK.out] at ak
  have al : ab < W0.heap.size := World.block_lt_of_cell? _ _ ak
  rw [ax, hm] at m1
  have hm0 : (0 : Int) < (m : Int) + 1 := by omega
  have hmb : m ≤ 140737488355328 := by omega
  clear hm
  refine wp_region_grow (by kernel_rfl) (by kernel_rfl) ?_
  repeat (any_goals (first | go_big_quiet_step (fail) | quiet_step (fail)))
  refine wpQuiet_nil ?_
  intro w1 hb
  have HB1 := Lib.hid (HB0.out.trans (hb.mono (by first | exact Nat.le_refl _ | exact HB0.out.size)))
  clear hb
  clear s0 s1 s2 m0 m1 n0 n1 z0 z1 z2 z3
  clear ak al ax
  go_wp2
  go_ret
  exact ⟨rfl, st_base.trans (HB1.out.mono st_base.size)⟩

theorem st_branch_b4 (pg wd : Int) (x : VH) (L : NodeD) (s : ByteArray) (y : VH) (R : NodeD) (w : World) (hL : RdN w x.A0 x.c0 x.A1 x.c1 x.A2 x.c2 L) (hR : RdN w y.A0 y.c0 y.A1 y.c1 y.A2 y.c2 R) (_h0 : 0 ≤ pg) (_h1 : pg ≤ 8192) (_hsm : s.size ≤ 140737488355328) (k1 : ¬ (s.size : Int) < 1) (k2 : ¬ pg / 16 < (s.size : Int)) (ho1 : L.pairs.length = 0) (ho2 : R.pairs.length = 0) (hm : L.seps.length = 0) (n : Nat) (hn : R.seps.length = n + 1) (rk : ByteArray) (hrk : sepAt R.seps 0 = rk) (hq : Op.bytesLess rk.toList s.toList = true) :
    Calls Try.prog 109 #[vF pg wd, vH x L s y R] w fun e w' => e = .returned (.bool false) ∧ Below w.heap.size w w' := by
  have hlp := hL.hs
  have HL := Lib.hid (fun W (h : Below (stW w pg wd x L s y R).heap.size (stW w pg wd x L s y R) W) => (RdN.below hL st_base).below h)
  have HRD := Lib.hid (fun W (h : Below (stW w pg wd x L s y R).heap.size (stW w pg wd x L s y R) W) => (RdN.below hR st_base).below h)
  have HM := Lib.hid hm
  have HNN := Lib.hid hn
  have HRK := Lib.hid hrk
  have HO1 := Lib.hid ho1
  have HO2 := Lib.hid ho2
  clear hL hR hm hn hrk ho1 ho2
  go_enter Try.func109, Try.ntmps109
  go_wp2
  obtain ⟨W0, hW0⟩ : ∃ W0, W0 = stW w pg wd x L s y R := ⟨_, rfl⟩
  have HB0 : Hid (Below (stW w pg wd x L s y R).heap.size (stW w pg wd x L s y R) W0) := Lib.hid (by rw [hW0]; exact Below.refl _ _)
  simp only [stW, cells7, node3] at hW0
  rw [← hW0]
  clear hW0
  obtain ⟨⟨⟨s0, s1⟩, s2⟩, ⟨m0, m1⟩, ⟨n0, n1⟩, z0, z1, z2, z3⟩ := st_facts HB0.out
  rw [HO1.out] at m0
  rw [HM.out] at m1
  refine wp_region_grow (by kernel_rfl) (by kernel_rfl) ?_
  repeat (any_goals (first | go_big_quiet_step (fail) | quiet_step (fail)))
  refine wpQuiet_nil ?_
  intro w1 hb
  have HB1 := Lib.hid (HB0.out.trans (hb.mono (by first | exact Nat.le_refl _ | exact HB0.out.size)))
  clear hb
  clear s0 s1 s2 m0 m1 n0 n1 z0 z1 z2 z3
  go_wp2
  obtain ⟨⟨⟨s0, s1⟩, s2⟩, ⟨m0, m1⟩, ⟨n0, n1⟩, z0, z1, z2, z3⟩ := st_facts HB1.out
  rw [HO2.out] at n0
  have hn := HNN.out
  obtain ⟨bb, bo, bx, bk⟩ := seps_at (HRD.out _ HB1.out).seps (show 0 < R.seps.length by omega)
  rw [← sepAt_get (show 0 < R.seps.length by omega), HRK.out] at bk
  have bl : bb < w1.heap.size := World.block_lt_of_cell? _ _ bk
  rw [bx, hn] at n1
  simp only [Nat.add_zero] at bk
  clear hn
  refine wp_region_grow (by kernel_rfl) (by kernel_rfl) ?_
  repeat (any_goals (first | go_big_quiet_step (fail) | quiet_step (fail)))
  refine wpQuiet_nil ?_
  intro w2 hb
  have HB2 := Lib.hid (HB1.out.trans (hb.mono (by first | exact Nat.le_refl _ | exact HB1.out.size)))
  clear hb
  clear s0 s1 s2 m0 m1 n0 n1 z0 z1 z2 z3
  clear bk bl bx
  go_wp2
  go_ret
  exact ⟨rfl, st_base.trans (HB2.out.mono st_base.size)⟩

theorem st_branch_b5 (pg wd : Int) (x : VH) (L : NodeD) (s : ByteArray) (y : VH) (R : NodeD) (w : World) (hL : RdN w x.A0 x.c0 x.A1 x.c1 x.A2 x.c2 L) (hR : RdN w y.A0 y.c0 y.A1 y.c1 y.A2 y.c2 R) (_h0 : 0 ≤ pg) (_h1 : pg ≤ 8192) (_hsm : s.size ≤ 140737488355328) (k1 : ¬ (s.size : Int) < 1) (k2 : ¬ pg / 16 < (s.size : Int)) (ho1 : L.pairs.length = 0) (ho2 : R.pairs.length = 0) (m : Nat) (hm : L.seps.length = m + 1) (lk : ByteArray) (hlk : sepAt L.seps m = lk) (ho : Op.bytesLess lk.toList s.toList = true) (n : Nat) (hn : R.seps.length = n + 1) (rk : ByteArray) (hrk : sepAt R.seps 0 = rk) (hq : Op.bytesLess rk.toList s.toList = true) :
    Calls Try.prog 109 #[vF pg wd, vH x L s y R] w fun e w' => e = .returned (.bool false) ∧ Below w.heap.size w w' := by
  have hlp := hL.hs
  have HL := Lib.hid (fun W (h : Below (stW w pg wd x L s y R).heap.size (stW w pg wd x L s y R) W) => (RdN.below hL st_base).below h)
  have HRD := Lib.hid (fun W (h : Below (stW w pg wd x L s y R).heap.size (stW w pg wd x L s y R) W) => (RdN.below hR st_base).below h)
  have HM := Lib.hid hm
  have HNN := Lib.hid hn
  have HLK := Lib.hid hlk
  have HRK := Lib.hid hrk
  have HO1 := Lib.hid ho1
  have HO2 := Lib.hid ho2
  clear hL hR hm hn hlk hrk ho1 ho2
  go_enter Try.func109, Try.ntmps109
  go_wp2
  obtain ⟨W0, hW0⟩ : ∃ W0, W0 = stW w pg wd x L s y R := ⟨_, rfl⟩
  have HB0 : Hid (Below (stW w pg wd x L s y R).heap.size (stW w pg wd x L s y R) W0) := Lib.hid (by rw [hW0]; exact Below.refl _ _)
  simp only [stW, cells7, node3] at hW0
  rw [← hW0]
  clear hW0
  obtain ⟨⟨⟨s0, s1⟩, s2⟩, ⟨m0, m1⟩, ⟨n0, n1⟩, z0, z1, z2, z3⟩ := st_facts HB0.out
  rw [HO1.out] at m0
  have hm := HM.out
  obtain ⟨ab, ao, ax, ak⟩ := seps_at (HL.out _ HB0.out).seps (show m < L.seps.length by omega)
  rw [← sepAt_get (show m < L.seps.length by omega), HLK.out] at ak
  have al : ab < W0.heap.size := World.block_lt_of_cell? _ _ ak
  rw [ax, hm] at m1
  have hm0 : (0 : Int) < (m : Int) + 1 := by omega
  have hmb : m ≤ 140737488355328 := by omega
  clear hm
  refine wp_region_grow (by kernel_rfl) (by kernel_rfl) ?_
  repeat (any_goals (first | go_big_quiet_step (fail) | quiet_step (fail)))
  refine wpQuiet_nil ?_
  intro w1 hb
  have HB1 := Lib.hid (HB0.out.trans (hb.mono (by first | exact Nat.le_refl _ | exact HB0.out.size)))
  clear hb
  clear s0 s1 s2 m0 m1 n0 n1 z0 z1 z2 z3
  clear ak al ax
  go_wp2
  obtain ⟨⟨⟨s0, s1⟩, s2⟩, ⟨m0, m1⟩, ⟨n0, n1⟩, z0, z1, z2, z3⟩ := st_facts HB1.out
  rw [HO2.out] at n0
  have hn := HNN.out
  obtain ⟨bb, bo, bx, bk⟩ := seps_at (HRD.out _ HB1.out).seps (show 0 < R.seps.length by omega)
  rw [← sepAt_get (show 0 < R.seps.length by omega), HRK.out] at bk
  have bl : bb < w1.heap.size := World.block_lt_of_cell? _ _ bk
  rw [bx, hn] at n1
  simp only [Nat.add_zero] at bk
  clear hn
  refine wp_region_grow (by kernel_rfl) (by kernel_rfl) ?_
  repeat (any_goals (first | go_big_quiet_step (fail) | quiet_step (fail)))
  refine wpQuiet_nil ?_
  intro w2 hb
  have HB2 := Lib.hid (HB1.out.trans (hb.mono (by first | exact Nat.le_refl _ | exact HB1.out.size)))
  clear hb
  clear s0 s1 s2 m0 m1 n0 n1 z0 z1 z2 z3
  clear bk bl bx
  go_wp2
  go_ret
  exact ⟨rfl, st_base.trans (HB2.out.mono st_base.size)⟩

theorem st_branch_b4x (pg wd : Int) (x : VH) (L : NodeD) (s : ByteArray) (y : VH) (R : NodeD) (w : World) (hL : RdN w x.A0 x.c0 x.A1 x.c1 x.A2 x.c2 L) (hR : RdN w y.A0 y.c0 y.A1 y.c1 y.A2 y.c2 R) (_h0 : 0 ≤ pg) (_h1 : pg ≤ 8192) (_hsm : s.size ≤ 140737488355328) (k1 : ¬ (s.size : Int) < 1) (k2 : ¬ pg / 16 < (s.size : Int)) (ho1 : L.pairs.length = 0) (ho2 : R.pairs.length = 0) (hm : L.seps.length = 0) (n : Nat) (hn : R.seps.length = n + 1) (rk : ByteArray) (hrk : sepAt R.seps 0 = rk) (hq : Op.bytesLess rk.toList s.toList = false) (hq2 : (rk.toList == s.toList) = true) :
    Calls Try.prog 109 #[vF pg wd, vH x L s y R] w fun e w' => e = .returned (.bool false) ∧ Below w.heap.size w w' := by
  have hlp := hL.hs
  have HL := Lib.hid (fun W (h : Below (stW w pg wd x L s y R).heap.size (stW w pg wd x L s y R) W) => (RdN.below hL st_base).below h)
  have HRD := Lib.hid (fun W (h : Below (stW w pg wd x L s y R).heap.size (stW w pg wd x L s y R) W) => (RdN.below hR st_base).below h)
  have HM := Lib.hid hm
  have HNN := Lib.hid hn
  have HRK := Lib.hid hrk
  have HO1 := Lib.hid ho1
  have HO2 := Lib.hid ho2
  clear hL hR hm hn hrk ho1 ho2
  go_enter Try.func109, Try.ntmps109
  go_wp2
  obtain ⟨W0, hW0⟩ : ∃ W0, W0 = stW w pg wd x L s y R := ⟨_, rfl⟩
  have HB0 : Hid (Below (stW w pg wd x L s y R).heap.size (stW w pg wd x L s y R) W0) := Lib.hid (by rw [hW0]; exact Below.refl _ _)
  simp only [stW, cells7, node3] at hW0
  rw [← hW0]
  clear hW0
  obtain ⟨⟨⟨s0, s1⟩, s2⟩, ⟨m0, m1⟩, ⟨n0, n1⟩, z0, z1, z2, z3⟩ := st_facts HB0.out
  rw [HO1.out] at m0
  rw [HM.out] at m1
  refine wp_region_grow (by kernel_rfl) (by kernel_rfl) ?_
  repeat (any_goals (first | go_big_quiet_step (fail) | quiet_step (fail)))
  refine wpQuiet_nil ?_
  intro w1 hb
  have HB1 := Lib.hid (HB0.out.trans (hb.mono (by first | exact Nat.le_refl _ | exact HB0.out.size)))
  clear hb
  clear s0 s1 s2 m0 m1 n0 n1 z0 z1 z2 z3
  go_wp2
  obtain ⟨⟨⟨s0, s1⟩, s2⟩, ⟨m0, m1⟩, ⟨n0, n1⟩, z0, z1, z2, z3⟩ := st_facts HB1.out
  rw [HO2.out] at n0
  have hn := HNN.out
  obtain ⟨bb, bo, bx, bk⟩ := seps_at (HRD.out _ HB1.out).seps (show 0 < R.seps.length by omega)
  rw [← sepAt_get (show 0 < R.seps.length by omega), HRK.out] at bk
  have bl : bb < w1.heap.size := World.block_lt_of_cell? _ _ bk
  rw [bx, hn] at n1
  simp only [Nat.add_zero] at bk
  clear hn
  refine wp_region_grow (by kernel_rfl) (by kernel_rfl) ?_
  repeat (any_goals (first | go_big_quiet_step (fail) | quiet_step (fail)))
  refine wpQuiet_nil ?_
  intro w2 hb
  have HB2 := Lib.hid (HB1.out.trans (hb.mono (by first | exact Nat.le_refl _ | exact HB1.out.size)))
  clear hb
  clear s0 s1 s2 m0 m1 n0 n1 z0 z1 z2 z3
  clear bk bl bx
  go_wp2
  go_ret
  exact ⟨rfl, st_base.trans (HB2.out.mono st_base.size)⟩

theorem st_branch_b5x (pg wd : Int) (x : VH) (L : NodeD) (s : ByteArray) (y : VH) (R : NodeD) (w : World) (hL : RdN w x.A0 x.c0 x.A1 x.c1 x.A2 x.c2 L) (hR : RdN w y.A0 y.c0 y.A1 y.c1 y.A2 y.c2 R) (_h0 : 0 ≤ pg) (_h1 : pg ≤ 8192) (_hsm : s.size ≤ 140737488355328) (k1 : ¬ (s.size : Int) < 1) (k2 : ¬ pg / 16 < (s.size : Int)) (ho1 : L.pairs.length = 0) (ho2 : R.pairs.length = 0) (m : Nat) (hm : L.seps.length = m + 1) (lk : ByteArray) (hlk : sepAt L.seps m = lk) (ho : Op.bytesLess lk.toList s.toList = true) (n : Nat) (hn : R.seps.length = n + 1) (rk : ByteArray) (hrk : sepAt R.seps 0 = rk) (hq : Op.bytesLess rk.toList s.toList = false) (hq2 : (rk.toList == s.toList) = true) :
    Calls Try.prog 109 #[vF pg wd, vH x L s y R] w fun e w' => e = .returned (.bool false) ∧ Below w.heap.size w w' := by
  have hlp := hL.hs
  have HL := Lib.hid (fun W (h : Below (stW w pg wd x L s y R).heap.size (stW w pg wd x L s y R) W) => (RdN.below hL st_base).below h)
  have HRD := Lib.hid (fun W (h : Below (stW w pg wd x L s y R).heap.size (stW w pg wd x L s y R) W) => (RdN.below hR st_base).below h)
  have HM := Lib.hid hm
  have HNN := Lib.hid hn
  have HLK := Lib.hid hlk
  have HRK := Lib.hid hrk
  have HO1 := Lib.hid ho1
  have HO2 := Lib.hid ho2
  clear hL hR hm hn hlk hrk ho1 ho2
  go_enter Try.func109, Try.ntmps109
  go_wp2
  obtain ⟨W0, hW0⟩ : ∃ W0, W0 = stW w pg wd x L s y R := ⟨_, rfl⟩
  have HB0 : Hid (Below (stW w pg wd x L s y R).heap.size (stW w pg wd x L s y R) W0) := Lib.hid (by rw [hW0]; exact Below.refl _ _)
  simp only [stW, cells7, node3] at hW0
  rw [← hW0]
  clear hW0
  obtain ⟨⟨⟨s0, s1⟩, s2⟩, ⟨m0, m1⟩, ⟨n0, n1⟩, z0, z1, z2, z3⟩ := st_facts HB0.out
  rw [HO1.out] at m0
  have hm := HM.out
  obtain ⟨ab, ao, ax, ak⟩ := seps_at (HL.out _ HB0.out).seps (show m < L.seps.length by omega)
  rw [← sepAt_get (show m < L.seps.length by omega), HLK.out] at ak
  have al : ab < W0.heap.size := World.block_lt_of_cell? _ _ ak
  rw [ax, hm] at m1
  have hm0 : (0 : Int) < (m : Int) + 1 := by omega
  have hmb : m ≤ 140737488355328 := by omega
  clear hm
  refine wp_region_grow (by kernel_rfl) (by kernel_rfl) ?_
  repeat (any_goals (first | go_big_quiet_step (fail) | quiet_step (fail)))
  refine wpQuiet_nil ?_
  intro w1 hb
  have HB1 := Lib.hid (HB0.out.trans (hb.mono (by first | exact Nat.le_refl _ | exact HB0.out.size)))
  clear hb
  clear s0 s1 s2 m0 m1 n0 n1 z0 z1 z2 z3
  clear ak al ax
  go_wp2
  obtain ⟨⟨⟨s0, s1⟩, s2⟩, ⟨m0, m1⟩, ⟨n0, n1⟩, z0, z1, z2, z3⟩ := st_facts HB1.out
  rw [HO2.out] at n0
  have hn := HNN.out
  obtain ⟨bb, bo, bx, bk⟩ := seps_at (HRD.out _ HB1.out).seps (show 0 < R.seps.length by omega)
  rw [← sepAt_get (show 0 < R.seps.length by omega), HRK.out] at bk
  have bl : bb < w1.heap.size := World.block_lt_of_cell? _ _ bk
  rw [bx, hn] at n1
  simp only [Nat.add_zero] at bk
  clear hn
  refine wp_region_grow (by kernel_rfl) (by kernel_rfl) ?_
  repeat (any_goals (first | go_big_quiet_step (fail) | quiet_step (fail)))
  refine wpQuiet_nil ?_
  intro w2 hb
  have HB2 := Lib.hid (HB1.out.trans (hb.mono (by first | exact Nat.le_refl _ | exact HB1.out.size)))
  clear hb
  clear s0 s1 s2 m0 m1 n0 n1 z0 z1 z2 z3
  clear bk bl bx
  go_wp2
  go_ret
  exact ⟨rfl, st_base.trans (HB2.out.mono st_base.size)⟩

theorem st_branch_g1 (pg wd : Int) (x : VH) (L : NodeD) (s : ByteArray) (y : VH) (R : NodeD) (w : World) (hL : RdN w x.A0 x.c0 x.A1 x.c1 x.A2 x.c2 L) (hR : RdN w y.A0 y.c0 y.A1 y.c1 y.A2 y.c2 R) (_h0 : 0 ≤ pg) (_h1 : pg ≤ 8192) (_hsm : s.size ≤ 140737488355328) (k1 : ¬ (s.size : Int) < 1) (k2 : ¬ pg / 16 < (s.size : Int)) (ho1 : L.pairs.length = 0) (ho2 : R.pairs.length = 0) (hm : L.seps.length = 0) (hn : R.seps.length = 0) :
    Calls Try.prog 109 #[vF pg wd, vH x L s y R] w fun e w' => e = .returned (.bool true) ∧ Below w.heap.size w w' := by
  have hlp := hL.hs
  have HL := Lib.hid (fun W (h : Below (stW w pg wd x L s y R).heap.size (stW w pg wd x L s y R) W) => (RdN.below hL st_base).below h)
  have HRD := Lib.hid (fun W (h : Below (stW w pg wd x L s y R).heap.size (stW w pg wd x L s y R) W) => (RdN.below hR st_base).below h)
  have HM := Lib.hid hm
  have HNN := Lib.hid hn
  have HO1 := Lib.hid ho1
  have HO2 := Lib.hid ho2
  clear hL hR hm hn ho1 ho2
  go_enter Try.func109, Try.ntmps109
  go_wp2
  obtain ⟨W0, hW0⟩ : ∃ W0, W0 = stW w pg wd x L s y R := ⟨_, rfl⟩
  have HB0 : Hid (Below (stW w pg wd x L s y R).heap.size (stW w pg wd x L s y R) W0) := Lib.hid (by rw [hW0]; exact Below.refl _ _)
  simp only [stW, cells7, node3] at hW0
  rw [← hW0]
  clear hW0
  obtain ⟨⟨⟨s0, s1⟩, s2⟩, ⟨m0, m1⟩, ⟨n0, n1⟩, z0, z1, z2, z3⟩ := st_facts HB0.out
  rw [HO1.out] at m0
  rw [HM.out] at m1
  refine wp_region_grow (by kernel_rfl) (by kernel_rfl) ?_
  repeat (any_goals (first | go_big_quiet_step (fail) | quiet_step (fail)))
  refine wpQuiet_nil ?_
  intro w1 hb
  have HB1 := Lib.hid (HB0.out.trans (hb.mono (by first | exact Nat.le_refl _ | exact HB0.out.size)))
  clear hb
  clear s0 s1 s2 m0 m1 n0 n1 z0 z1 z2 z3
  go_wp2
  obtain ⟨⟨⟨s0, s1⟩, s2⟩, ⟨m0, m1⟩, ⟨n0, n1⟩, z0, z1, z2, z3⟩ := st_facts HB1.out
  rw [HO2.out] at n0
  rw [HNN.out] at n1
  refine wp_region_grow (by kernel_rfl) (by kernel_rfl) ?_
  repeat (any_goals (first | go_big_quiet_step (fail) | quiet_step (fail)))
  refine wpQuiet_nil ?_
  intro w2 hb
  have HB2 := Lib.hid (HB1.out.trans (hb.mono (by first | exact Nat.le_refl _ | exact HB1.out.size)))
  clear hb
  clear s0 s1 s2 m0 m1 n0 n1 z0 z1 z2 z3
  go_wp2
  go_ret
  exact ⟨rfl, st_base.trans (HB2.out.mono st_base.size)⟩

theorem st_branch_g2 (pg wd : Int) (x : VH) (L : NodeD) (s : ByteArray) (y : VH) (R : NodeD) (w : World) (hL : RdN w x.A0 x.c0 x.A1 x.c1 x.A2 x.c2 L) (hR : RdN w y.A0 y.c0 y.A1 y.c1 y.A2 y.c2 R) (_h0 : 0 ≤ pg) (_h1 : pg ≤ 8192) (_hsm : s.size ≤ 140737488355328) (k1 : ¬ (s.size : Int) < 1) (k2 : ¬ pg / 16 < (s.size : Int)) (ho1 : L.pairs.length = 0) (ho2 : R.pairs.length = 0) (hm : L.seps.length = 0) (n : Nat) (hn : R.seps.length = n + 1) (rk : ByteArray) (hrk : sepAt R.seps 0 = rk) (hq : Op.bytesLess rk.toList s.toList = false) (hq2 : (rk.toList == s.toList) = false) :
    Calls Try.prog 109 #[vF pg wd, vH x L s y R] w fun e w' => e = .returned (.bool true) ∧ Below w.heap.size w w' := by
  have hlp := hL.hs
  have HL := Lib.hid (fun W (h : Below (stW w pg wd x L s y R).heap.size (stW w pg wd x L s y R) W) => (RdN.below hL st_base).below h)
  have HRD := Lib.hid (fun W (h : Below (stW w pg wd x L s y R).heap.size (stW w pg wd x L s y R) W) => (RdN.below hR st_base).below h)
  have HM := Lib.hid hm
  have HNN := Lib.hid hn
  have HRK := Lib.hid hrk
  have HO1 := Lib.hid ho1
  have HO2 := Lib.hid ho2
  clear hL hR hm hn hrk ho1 ho2
  go_enter Try.func109, Try.ntmps109
  go_wp2
  obtain ⟨W0, hW0⟩ : ∃ W0, W0 = stW w pg wd x L s y R := ⟨_, rfl⟩
  have HB0 : Hid (Below (stW w pg wd x L s y R).heap.size (stW w pg wd x L s y R) W0) := Lib.hid (by rw [hW0]; exact Below.refl _ _)
  simp only [stW, cells7, node3] at hW0
  rw [← hW0]
  clear hW0
  obtain ⟨⟨⟨s0, s1⟩, s2⟩, ⟨m0, m1⟩, ⟨n0, n1⟩, z0, z1, z2, z3⟩ := st_facts HB0.out
  rw [HO1.out] at m0
  rw [HM.out] at m1
  refine wp_region_grow (by kernel_rfl) (by kernel_rfl) ?_
  repeat (any_goals (first | go_big_quiet_step (fail) | quiet_step (fail)))
  refine wpQuiet_nil ?_
  intro w1 hb
  have HB1 := Lib.hid (HB0.out.trans (hb.mono (by first | exact Nat.le_refl _ | exact HB0.out.size)))
  clear hb
  clear s0 s1 s2 m0 m1 n0 n1 z0 z1 z2 z3
  go_wp2
  obtain ⟨⟨⟨s0, s1⟩, s2⟩, ⟨m0, m1⟩, ⟨n0, n1⟩, z0, z1, z2, z3⟩ := st_facts HB1.out
  rw [HO2.out] at n0
  have hn := HNN.out
  obtain ⟨bb, bo, bx, bk⟩ := seps_at (HRD.out _ HB1.out).seps (show 0 < R.seps.length by omega)
  rw [← sepAt_get (show 0 < R.seps.length by omega), HRK.out] at bk
  have bl : bb < w1.heap.size := World.block_lt_of_cell? _ _ bk
  rw [bx, hn] at n1
  simp only [Nat.add_zero] at bk
  clear hn
  refine wp_region_grow (by kernel_rfl) (by kernel_rfl) ?_
  repeat (any_goals (first | go_big_quiet_step (fail) | quiet_step (fail)))
  refine wpQuiet_nil ?_
  intro w2 hb
  have HB2 := Lib.hid (HB1.out.trans (hb.mono (by first | exact Nat.le_refl _ | exact HB1.out.size)))
  clear hb
  clear s0 s1 s2 m0 m1 n0 n1 z0 z1 z2 z3
  clear bk bl bx
  go_wp2
  go_ret
  exact ⟨rfl, st_base.trans (HB2.out.mono st_base.size)⟩

theorem st_branch_g3 (pg wd : Int) (x : VH) (L : NodeD) (s : ByteArray) (y : VH) (R : NodeD) (w : World) (hL : RdN w x.A0 x.c0 x.A1 x.c1 x.A2 x.c2 L) (hR : RdN w y.A0 y.c0 y.A1 y.c1 y.A2 y.c2 R) (_h0 : 0 ≤ pg) (_h1 : pg ≤ 8192) (_hsm : s.size ≤ 140737488355328) (k1 : ¬ (s.size : Int) < 1) (k2 : ¬ pg / 16 < (s.size : Int)) (ho1 : L.pairs.length = 0) (ho2 : R.pairs.length = 0) (m : Nat) (hm : L.seps.length = m + 1) (lk : ByteArray) (hlk : sepAt L.seps m = lk) (ho : Op.bytesLess lk.toList s.toList = true) (hn : R.seps.length = 0) :
    Calls Try.prog 109 #[vF pg wd, vH x L s y R] w fun e w' => e = .returned (.bool true) ∧ Below w.heap.size w w' := by
  have hlp := hL.hs
  have HL := Lib.hid (fun W (h : Below (stW w pg wd x L s y R).heap.size (stW w pg wd x L s y R) W) => (RdN.below hL st_base).below h)
  have HRD := Lib.hid (fun W (h : Below (stW w pg wd x L s y R).heap.size (stW w pg wd x L s y R) W) => (RdN.below hR st_base).below h)
  have HM := Lib.hid hm
  have HNN := Lib.hid hn
  have HLK := Lib.hid hlk
  have HO1 := Lib.hid ho1
  have HO2 := Lib.hid ho2
  clear hL hR hm hn hlk ho1 ho2
  go_enter Try.func109, Try.ntmps109
  go_wp2
  obtain ⟨W0, hW0⟩ : ∃ W0, W0 = stW w pg wd x L s y R := ⟨_, rfl⟩
  have HB0 : Hid (Below (stW w pg wd x L s y R).heap.size (stW w pg wd x L s y R) W0) := Lib.hid (by rw [hW0]; exact Below.refl _ _)
  simp only [stW, cells7, node3] at hW0
  rw [← hW0]
  clear hW0
  obtain ⟨⟨⟨s0, s1⟩, s2⟩, ⟨m0, m1⟩, ⟨n0, n1⟩, z0, z1, z2, z3⟩ := st_facts HB0.out
  rw [HO1.out] at m0
  have hm := HM.out
  obtain ⟨ab, ao, ax, ak⟩ := seps_at (HL.out _ HB0.out).seps (show m < L.seps.length by omega)
  rw [← sepAt_get (show m < L.seps.length by omega), HLK.out] at ak
  have al : ab < W0.heap.size := World.block_lt_of_cell? _ _ ak
  rw [ax, hm] at m1
  have hm0 : (0 : Int) < (m : Int) + 1 := by omega
  have hmb : m ≤ 140737488355328 := by omega
  clear hm
  refine wp_region_grow (by kernel_rfl) (by kernel_rfl) ?_
  repeat (any_goals (first | go_big_quiet_step (fail) | quiet_step (fail)))
  refine wpQuiet_nil ?_
  intro w1 hb
  have HB1 := Lib.hid (HB0.out.trans (hb.mono (by first | exact Nat.le_refl _ | exact HB0.out.size)))
  clear hb
  clear s0 s1 s2 m0 m1 n0 n1 z0 z1 z2 z3
  clear ak al ax
  go_wp2
  obtain ⟨⟨⟨s0, s1⟩, s2⟩, ⟨m0, m1⟩, ⟨n0, n1⟩, z0, z1, z2, z3⟩ := st_facts HB1.out
  rw [HO2.out] at n0
  rw [HNN.out] at n1
  refine wp_region_grow (by kernel_rfl) (by kernel_rfl) ?_
  repeat (any_goals (first | go_big_quiet_step (fail) | quiet_step (fail)))
  refine wpQuiet_nil ?_
  intro w2 hb
  have HB2 := Lib.hid (HB1.out.trans (hb.mono (by first | exact Nat.le_refl _ | exact HB1.out.size)))
  clear hb
  clear s0 s1 s2 m0 m1 n0 n1 z0 z1 z2 z3
  go_wp2
  go_ret
  exact ⟨rfl, st_base.trans (HB2.out.mono st_base.size)⟩

theorem st_branch_g4 (pg wd : Int) (x : VH) (L : NodeD) (s : ByteArray) (y : VH) (R : NodeD) (w : World) (hL : RdN w x.A0 x.c0 x.A1 x.c1 x.A2 x.c2 L) (hR : RdN w y.A0 y.c0 y.A1 y.c1 y.A2 y.c2 R) (_h0 : 0 ≤ pg) (_h1 : pg ≤ 8192) (_hsm : s.size ≤ 140737488355328) (k1 : ¬ (s.size : Int) < 1) (k2 : ¬ pg / 16 < (s.size : Int)) (ho1 : L.pairs.length = 0) (ho2 : R.pairs.length = 0) (m : Nat) (hm : L.seps.length = m + 1) (lk : ByteArray) (hlk : sepAt L.seps m = lk) (ho : Op.bytesLess lk.toList s.toList = true) (n : Nat) (hn : R.seps.length = n + 1) (rk : ByteArray) (hrk : sepAt R.seps 0 = rk) (hq : Op.bytesLess rk.toList s.toList = false) (hq2 : (rk.toList == s.toList) = false) :
    Calls Try.prog 109 #[vF pg wd, vH x L s y R] w fun e w' => e = .returned (.bool true) ∧ Below w.heap.size w w' := by
  have hlp := hL.hs
  have HL := Lib.hid (fun W (h : Below (stW w pg wd x L s y R).heap.size (stW w pg wd x L s y R) W) => (RdN.below hL st_base).below h)
  have HRD := Lib.hid (fun W (h : Below (stW w pg wd x L s y R).heap.size (stW w pg wd x L s y R) W) => (RdN.below hR st_base).below h)
  have HM := Lib.hid hm
  have HNN := Lib.hid hn
  have HLK := Lib.hid hlk
  have HRK := Lib.hid hrk
  have HO1 := Lib.hid ho1
  have HO2 := Lib.hid ho2
  clear hL hR hm hn hlk hrk ho1 ho2
  go_enter Try.func109, Try.ntmps109
  go_wp2
  obtain ⟨W0, hW0⟩ : ∃ W0, W0 = stW w pg wd x L s y R := ⟨_, rfl⟩
  have HB0 : Hid (Below (stW w pg wd x L s y R).heap.size (stW w pg wd x L s y R) W0) := Lib.hid (by rw [hW0]; exact Below.refl _ _)
  simp only [stW, cells7, node3] at hW0
  rw [← hW0]
  clear hW0
  obtain ⟨⟨⟨s0, s1⟩, s2⟩, ⟨m0, m1⟩, ⟨n0, n1⟩, z0, z1, z2, z3⟩ := st_facts HB0.out
  rw [HO1.out] at m0
  have hm := HM.out
  obtain ⟨ab, ao, ax, ak⟩ := seps_at (HL.out _ HB0.out).seps (show m < L.seps.length by omega)
  rw [← sepAt_get (show m < L.seps.length by omega), HLK.out] at ak
  have al : ab < W0.heap.size := World.block_lt_of_cell? _ _ ak
  rw [ax, hm] at m1
  have hm0 : (0 : Int) < (m : Int) + 1 := by omega
  have hmb : m ≤ 140737488355328 := by omega
  clear hm
  refine wp_region_grow (by kernel_rfl) (by kernel_rfl) ?_
  repeat (any_goals (first | go_big_quiet_step (fail) | quiet_step (fail)))
  refine wpQuiet_nil ?_
  intro w1 hb
  have HB1 := Lib.hid (HB0.out.trans (hb.mono (by first | exact Nat.le_refl _ | exact HB0.out.size)))
  clear hb
  clear s0 s1 s2 m0 m1 n0 n1 z0 z1 z2 z3
  clear ak al ax
  go_wp2
  obtain ⟨⟨⟨s0, s1⟩, s2⟩, ⟨m0, m1⟩, ⟨n0, n1⟩, z0, z1, z2, z3⟩ := st_facts HB1.out
  rw [HO2.out] at n0
  have hn := HNN.out
  obtain ⟨bb, bo, bx, bk⟩ := seps_at (HRD.out _ HB1.out).seps (show 0 < R.seps.length by omega)
  rw [← sepAt_get (show 0 < R.seps.length by omega), HRK.out] at bk
  have bl : bb < w1.heap.size := World.block_lt_of_cell? _ _ bk
  rw [bx, hn] at n1
  simp only [Nat.add_zero] at bk
  clear hn
  refine wp_region_grow (by kernel_rfl) (by kernel_rfl) ?_
  repeat (any_goals (first | go_big_quiet_step (fail) | quiet_step (fail)))
  refine wpQuiet_nil ?_
  intro w2 hb
  have HB2 := Lib.hid (HB1.out.trans (hb.mono (by first | exact Nat.le_refl _ | exact HB1.out.size)))
  clear hb
  clear s0 s1 s2 m0 m1 n0 n1 z0 z1 z2 z3
  clear bk bl bx
  go_wp2
  go_ret
  exact ⟨rfl, st_base.trans (HB2.out.mono st_base.size)⟩

end Go.Proofs.Ytajkoeodabmgeaa

