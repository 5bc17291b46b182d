import Derived.Test.YtajkoeodabmgeaaZ14
namespace Go.Proofs.Ytajkoeodabmgeaa
open Go.RowKit
set_option maxHeartbeats 4000000
set_option maxRecDepth 100000
attribute [local go_sem] grow_cell grow_frozen grow_size

abbrev stW (w : World) (pg wd : Int) (x : VH) (L : NodeD) (s : ByteArray) (y : VH) (R : NodeD) : World :=
  (((w.alloc (.cells #[.int .i64 pg, .int .i64 wd] 24)).alloc (.cells (cells7 x L s y R) 54)).alloc (.cells (node3 x L) 29)).alloc (.cells (node3 y R) 29)
theorem st_base {w : World} {pg wd : Int} {x y : VH} {L R : NodeD} {s : ByteArray} : Below w.heap.size w (stW w pg wd x L s y R) :=
  ((((Below.refl _ _).alloc (Nat.le_refl _) _).alloc (by simp) _).alloc (by simp <;> omega) _).alloc (by simp <;> omega) _
theorem st_facts {w W : World} {pg wd : Int} {x y : VH} {L R : NodeD} {s : ByteArray} (h : Below (stW w pg wd x L s y R).heap.size (stW w pg wd x L s y R) W) :
    ((W.cell? ⟨w.heap.size, 0, none⟩ = some (.int .i64 pg) ∧ W.cell? ⟨w.heap.size, 1, none⟩ = some (.int .i64 wd)) ∧ W.cell? ⟨w.heap.size + 1, 3, none⟩ = some (.string s)) ∧
    (W.cell? ⟨w.heap.size + 1 + 1, 0, none⟩ = some (.slice x.A0 L.pairs.length x.c0) ∧ W.cell? ⟨w.heap.size + 1 + 1, 1, none⟩ = some (.slice x.A1 L.seps.length x.c1)) ∧
    (W.cell? ⟨w.heap.size + 1 + 1 + 1, 0, none⟩ = some (.slice y.A0 R.pairs.length y.c0) ∧ W.cell? ⟨w.heap.size + 1 + 1 + 1, 1, none⟩ = some (.slice y.A1 R.seps.length y.c1)) ∧
    (w.heap.size < W.heap.size ∧ w.heap.size + 1 < W.heap.size ∧ w.heap.size + 1 + 1 < W.heap.size ∧ w.heap.size + 1 + 1 + 1 < W.heap.size) := by
  have hz : (stW w pg wd x L s y R).heap.size = w.heap.size + 4 := by simp [stW]
  have hs := h.size
  have h0 : W.heap[w.heap.size]? = some (.cells #[.int .i64 pg, .int .i64 wd] 24 (0, 0)) := (h.block _ (by omega)).trans ((Below.heap_alloc _ _ _ (by simp <;> omega)).trans (alloc3_0 w _ _ _))
  have h1 : W.heap[w.heap.size + 1]? = some (.cells (cells7 x L s y R) 54 (0, 0)) := (h.block _ (by omega)).trans ((Below.heap_alloc _ _ _ (by simp <;> omega)).trans (alloc3_1 w _ _ _))
  have h2 : W.heap[w.heap.size + 1 + 1]? = some (.cells (node3 x L) 29 (0, 0)) := (h.block _ (by omega)).trans ((Below.heap_alloc _ _ _ (by simp <;> omega)).trans (alloc3_at w _ _ _))
  have h3 : W.heap[w.heap.size + 1 + 1 + 1]? = some (.cells (node3 y R) 29 (0, 0)) := (h.block _ (by omega)).trans (alloc4_at w _ _ _ _)
  exact ⟨⟨⟨cell_of_row _ _ 0 _ _ _ h0, cell_of_row _ _ 1 _ _ _ h0⟩, cell_of_row _ _ 3 _ _ _ h1⟩, ⟨cell_of_row _ _ 0 _ _ _ h2, cell_of_row _ _ 1 _ _ _ h2⟩, ⟨cell_of_row _ _ 0 _ _ _ h3, cell_of_row _ _ 1 _ _ _ h3⟩, by omega, by omega, by omega, by omega⟩

theorem st_leaf_e1 (pg wd : Int) (x : VH) (L : NodeD) (s : ByteArray) (y : VH) (R : NodeD) (w : World) (hL : RdN w x.A0 x.c0 x.A1 x.c1 x.A2 x.c2 L) (hR : RdN w y.A0 y.c0 y.A1 y.c1 y.A2 y.c2 R) (_h0 : 0 ≤ pg) (_h1 : pg ≤ 8192) (_hsm : s.size ≤ 140737488355328) (k1 : (s.size : Int) < 1) :
    Calls Try.prog 109 #[vF pg wd, vH x L s y R] w fun e w' => e = .returned (.bool false) ∧ Below w.heap.size w w' := by
  have hlp := hL.hp
  have HL := Lib.hid (fun W (h : Below (stW w pg wd x L s y R).heap.size (stW w pg wd x L s y R) W) => (RdN.below hL st_base).below h)
  have HRD := Lib.hid (fun W (h : Below (stW w pg wd x L s y R).heap.size (stW w pg wd x L s y R) W) => (RdN.below hR st_base).below h)
  clear hL hR
  go_enter Try.func109, Try.ntmps109
  go_wp2
  go_ret
  exact ⟨rfl, ((Below.refl _ _).alloc (Nat.le_refl _) _).alloc (by simp) _⟩

theorem st_leaf_e2 (pg wd : Int) (x : VH) (L : NodeD) (s : ByteArray) (y : VH) (R : NodeD) (w : World) (hL : RdN w x.A0 x.c0 x.A1 x.c1 x.A2 x.c2 L) (hR : RdN w y.A0 y.c0 y.A1 y.c1 y.A2 y.c2 R) (_h0 : 0 ≤ pg) (_h1 : pg ≤ 8192) (_hsm : s.size ≤ 140737488355328) (k1 : ¬ (s.size : Int) < 1) (k2 : pg / 16 < (s.size : Int)) :
    Calls Try.prog 109 #[vF pg wd, vH x L s y R] w fun e w' => e = .returned (.bool false) ∧ Below w.heap.size w w' := by
  have hlp := hL.hp
  have HL := Lib.hid (fun W (h : Below (stW w pg wd x L s y R).heap.size (stW w pg wd x L s y R) W) => (RdN.below hL st_base).below h)
  have HRD := Lib.hid (fun W (h : Below (stW w pg wd x L s y R).heap.size (stW w pg wd x L s y R) W) => (RdN.below hR st_base).below h)
  clear hL hR
  go_enter Try.func109, Try.ntmps109
  go_wp2
  go_ret
  exact ⟨rfl, ((Below.refl _ _).alloc (Nat.le_refl _) _).alloc (by simp) _⟩

theorem st_leaf_b3 (pg wd : Int) (x : VH) (L : NodeD) (s : ByteArray) (y : VH) (R : NodeD) (w : World) (hL : RdN w x.A0 x.c0 x.A1 x.c1 x.A2 x.c2 L) (hR : RdN w y.A0 y.c0 y.A1 y.c1 y.A2 y.c2 R) (_h0 : 0 ≤ pg) (_h1 : pg ≤ 8192) (_hsm : s.size ≤ 140737488355328) (k1 : ¬ (s.size : Int) < 1) (k2 : ¬ pg / 16 < (s.size : Int)) (ho1 : L.seps.length = 0) (ho2 : R.seps.length = 0) (m : Nat) (hm : L.pairs.length = m + 1) (lk : ByteArray) (hlk : keyAt L.pairs m = lk) (ho : Op.bytesLess lk.toList s.toList = false) :
    Calls Try.prog 109 #[vF pg wd, vH x L s y R] w fun e w' => e = .returned (.bool false) ∧ Below w.heap.size w w' := by
  have hlp := hL.hp
  have HL := Lib.hid (fun W (h : Below (stW w pg wd x L s y R).heap.size (stW w pg wd x L s y R) W) => (RdN.below hL st_base).below h)
  have HRD := Lib.hid (fun W (h : Below (stW w pg wd x L s y R).heap.size (stW w pg wd x L s y R) W) => (RdN.below hR st_base).below h)
  have HM := Lib.hid hm
  have HLK := Lib.hid hlk
  have HO1 := Lib.hid ho1
  have HO2 := Lib.hid ho2
  clear hL hR hm hlk ho1 ho2
  go_enter Try.func109, Try.ntmps109
  go_wp2
  obtain ⟨W0, hW0⟩ : ∃ W0, W0 = stW w pg wd x L s y R := ⟨_, rfl⟩
  have HB0 : Hid (Below (stW w pg wd x L s y R).heap.size (stW w pg wd x L s y R) W0) := Lib.hid (by rw [hW0]; exact Below.refl _ _)
  simp only [stW, cells7, node3] at hW0
  rw [← hW0]
  clear hW0
  obtain ⟨⟨⟨s0, s1⟩, s2⟩, ⟨m0, m1⟩, ⟨n0, n1⟩, z0, z1, z2, z3⟩ := st_facts HB0.out
  rw [HO1.out] at m1
  have hm := HM.out
  obtain ⟨ab, ao, ax, ak, aj⟩ := pairs_at (HL.out _ HB0.out).pairs (show m < L.pairs.length by omega)
  clear aj
  rw [← keyAt_get (show m < L.pairs.length by omega), HLK.out] at ak
  have al : ab < W0.heap.size := World.block_lt_of_cell? _ _ ak
  rw [ax, hm] at m0
  have hm0 : (0 : Int) < (m : Int) + 1 := by omega
  have hmb : m ≤ 140737488355328 := by omega
  clear hm
  refine wp_region_grow (by kernel_rfl) (by kernel_rfl) ?_
  repeat (any_goals (first | go_big_quiet_step (fail) | quiet_step (fail)))
  refine wpQuiet_nil ?_
  intro w1 hb
  have HB1 := Lib.hid (HB0.out.trans (hb.mono (by first | exact Nat.le_refl _ | exact HB0.out.size)))
  clear hb
  clear s0 s1 s2 m0 m1 n0 n1 z0 z1 z2 z3
  clear ak al ax
  go_wp2
  go_ret
  exact ⟨rfl, st_base.trans (HB1.out.mono st_base.size)⟩

theorem st_leaf_b4 (pg wd : Int) (x : VH) (L : NodeD) (s : ByteArray) (y : VH) (R : NodeD) (w : World) (hL : RdN w x.A0 x.c0 x.A1 x.c1 x.A2 x.c2 L) (hR : RdN w y.A0 y.c0 y.A1 y.c1 y.A2 y.c2 R) (_h0 : 0 ≤ pg) (_h1 : pg ≤ 8192) (_hsm : s.size ≤ 140737488355328) (k1 : ¬ (s.size : Int) < 1) (k2 : ¬ pg / 16 < (s.size : Int)) (ho1 : L.seps.length = 0) (ho2 : R.seps.length = 0) (hm : L.pairs.length = 0) (n : Nat) (hn : R.pairs.length = n + 1) (rk : ByteArray) (hrk : keyAt R.pairs 0 = rk) (hq : Op.bytesLess rk.toList s.toList = true) :
    Calls Try.prog 109 #[vF pg wd, vH x L s y R] w fun e w' => e = .returned (.bool false) ∧ Below w.heap.size w w' := by
  have hlp := hL.hp
  have HL := Lib.hid (fun W (h : Below (stW w pg wd x L s y R).heap.size (stW w pg wd x L s y R) W) => (RdN.below hL st_base).below h)
  have HRD := Lib.hid (fun W (h : Below (stW w pg wd x L s y R).heap.size (stW w pg wd x L s y R) W) => (RdN.below hR st_base).below h)
  have HM := Lib.hid hm
  have HNN := Lib.hid hn
  have HRK := Lib.hid hrk
  have HO1 := Lib.hid ho1
  have HO2 := Lib.hid ho2
  clear hL hR hm hn hrk ho1 ho2
  go_enter Try.func109, Try.ntmps109
  go_wp2
  obtain ⟨W0, hW0⟩ : ∃ W0, W0 = stW w pg wd x L s y R := ⟨_, rfl⟩
  have HB0 : Hid (Below (stW w pg wd x L s y R).heap.size (stW w pg wd x L s y R) W0) := Lib.hid (by rw [hW0]; exact Below.refl _ _)
  simp only [stW, cells7, node3] at hW0
  rw [← hW0]
  clear hW0
  obtain ⟨⟨⟨s0, s1⟩, s2⟩, ⟨m0, m1⟩, ⟨n0, n1⟩, z0, z1, z2, z3⟩ := st_facts HB0.out
  rw [HO1.out] at m1
  rw [HM.out] at m0
  refine wp_region_grow (by kernel_rfl) (by kernel_rfl) ?_
  repeat (any_goals (first | go_big_quiet_step (fail) | quiet_step (fail)))
  refine wpQuiet_nil ?_
  intro w1 hb
  have HB1 := Lib.hid (HB0.out.trans (hb.mono (by first | exact Nat.le_refl _ | exact HB0.out.size)))
  clear hb
  clear s0 s1 s2 m0 m1 n0 n1 z0 z1 z2 z3
  go_wp2
  obtain ⟨⟨⟨s0, s1⟩, s2⟩, ⟨m0, m1⟩, ⟨n0, n1⟩, z0, z1, z2, z3⟩ := st_facts HB1.out
  rw [HO2.out] at n1
  have hn := HNN.out
  obtain ⟨bb, bo, bx, bk, bj⟩ := pairs_at (HRD.out _ HB1.out).pairs (show 0 < R.pairs.length by omega)
  clear bj
  rw [← keyAt_get (show 0 < R.pairs.length by omega), HRK.out] at bk
  have bl : bb < w1.heap.size := World.block_lt_of_cell? _ _ bk
  rw [bx, hn] at n0
  simp only [Nat.zero_mul, Nat.add_zero] at bk
  clear hn
  refine wp_region_grow (by kernel_rfl) (by kernel_rfl) ?_
  repeat (any_goals (first | go_big_quiet_step (fail) | quiet_step (fail)))
  refine wpQuiet_nil ?_
  intro w2 hb
  have HB2 := Lib.hid (HB1.out.trans (hb.mono (by first | exact Nat.le_refl _ | exact HB1.out.size)))
  clear hb
  clear s0 s1 s2 m0 m1 n0 n1 z0 z1 z2 z3
  clear bk bl bx
  go_wp2
  go_ret
  exact ⟨rfl, st_base.trans (HB2.out.mono st_base.size)⟩

theorem st_leaf_b5 (pg wd : Int) (x : VH) (L : NodeD) (s : ByteArray) (y : VH) (R : NodeD) (w : World) (hL : RdN w x.A0 x.c0 x.A1 x.c1 x.A2 x.c2 L) (hR : RdN w y.A0 y.c0 y.A1 y.c1 y.A2 y.c2 R) (_h0 : 0 ≤ pg) (_h1 : pg ≤ 8192) (_hsm : s.size ≤ 140737488355328) (k1 : ¬ (s.size : Int) < 1) (k2 : ¬ pg / 16 < (s.size : Int)) (ho1 : L.seps.length = 0) (ho2 : R.seps.length = 0) (m : Nat) (hm : L.pairs.length = m + 1) (lk : ByteArray) (hlk : keyAt L.pairs m = lk) (ho : Op.bytesLess lk.toList s.toList = true) (n : Nat) (hn : R.pairs.length = n + 1) (rk : ByteArray) (hrk : keyAt R.pairs 0 = rk) (hq : Op.bytesLess rk.toList s.toList = true) :
    Calls Try.prog 109 #[vF pg wd, vH x L s y R] w fun e w' => e = .returned (.bool false) ∧ Below w.heap.size w w' := by
  have hlp := hL.hp
  have HL := Lib.hid (fun W (h : Below (stW w pg wd x L s y R).heap.size (stW w pg wd x L s y R) W) => (RdN.below hL st_base).below h)
  have HRD := Lib.hid (fun W (h : Below (stW w pg wd x L s y R).heap.size (stW w pg wd x L s y R) W) => (RdN.below hR st_base).below h)
  have HM := Lib.hid hm
  have HNN := Lib.hid hn
  have HLK := Lib.hid hlk
  have HRK := Lib.hid hrk
  have HO1 := Lib.hid ho1
  have HO2 := Lib.hid ho2
  clear hL hR hm hn hlk hrk ho1 ho2
  go_enter Try.func109, Try.ntmps109
  go_wp2
  obtain ⟨W0, hW0⟩ : ∃ W0, W0 = stW w pg wd x L s y R := ⟨_, rfl⟩
  have HB0 : Hid (Below (stW w pg wd x L s y R).heap.size (stW w pg wd x L s y R) W0) := Lib.hid (by rw [hW0]; exact Below.refl _ _)
  simp only [stW, cells7, node3] at hW0
  rw [← hW0]
  clear hW0
  obtain ⟨⟨⟨s0, s1⟩, s2⟩, ⟨m0, m1⟩, ⟨n0, n1⟩, z0, z1, z2, z3⟩ := st_facts HB0.out
  rw [HO1.out] at m1
  have hm := HM.out
  obtain ⟨ab, ao, ax, ak, aj⟩ := pairs_at (HL.out _ HB0.out).pairs (show m < L.pairs.length by omega)
  clear aj
  rw [← keyAt_get (show m < L.pairs.length by omega), HLK.out] at ak
  have al : ab < W0.heap.size := World.block_lt_of_cell? _ _ ak
  rw [ax, hm] at m0
  have hm0 : (0 : Int) < (m : Int) + 1 := by omega
  have hmb : m ≤ 140737488355328 := by omega
  clear hm
  refine wp_region_grow (by kernel_rfl) (by kernel_rfl) ?_
  repeat (any_goals (first | go_big_quiet_step (fail) | quiet_step (fail)))
  refine wpQuiet_nil ?_
  intro w1 hb
  have HB1 := Lib.hid (HB0.out.trans (hb.mono (by first | exact Nat.le_refl _ | exact HB0.out.size)))
  clear hb
  clear s0 s1 s2 m0 m1 n0 n1 z0 z1 z2 z3
  clear ak al ax
  go_wp2
  obtain ⟨⟨⟨s0, s1⟩, s2⟩, ⟨m0, m1⟩, ⟨n0, n1⟩, z0, z1, z2, z3⟩ := st_facts HB1.out
  rw [HO2.out] at n1
  have hn := HNN.out
  obtain ⟨bb, bo, bx, bk, bj⟩ := pairs_at (HRD.out _ HB1.out).pairs (show 0 < R.pairs.length by omega)
  clear bj
  rw [← keyAt_get (show 0 < R.pairs.length by omega), HRK.out] at bk
  have bl : bb < w1.heap.size := World.block_lt_of_cell? _ _ bk
  rw [bx, hn] at n0
  simp only [Nat.zero_mul, Nat.add_zero] at bk
  clear hn
  refine wp_region_grow (by kernel_rfl) (by kernel_rfl) ?_
  repeat (any_goals (first | go_big_quiet_step (fail) | quiet_step (fail)))
  refine wpQuiet_nil ?_
  intro w2 hb
  have HB2 := Lib.hid (HB1.out.trans (hb.mono (by first | exact Nat.le_refl _ | exact HB1.out.size)))
  clear hb
  clear s0 s1 s2 m0 m1 n0 n1 z0 z1 z2 z3
  clear bk bl bx
  go_wp2
  go_ret
  exact ⟨rfl, st_base.trans (HB2.out.mono st_base.size)⟩

theorem st_leaf_g1 (pg wd : Int) (x : VH) (L : NodeD) (s : ByteArray) (y : VH) (R : NodeD) (w : World) (hL : RdN w x.A0 x.c0 x.A1 x.c1 x.A2 x.c2 L) (hR : RdN w y.A0 y.c0 y.A1 y.c1 y.A2 y.c2 R) (_h0 : 0 ≤ pg) (_h1 : pg ≤ 8192) (_hsm : s.size ≤ 140737488355328) (k1 : ¬ (s.size : Int) < 1) (k2 : ¬ pg / 16 < (s.size : Int)) (ho1 : L.seps.length = 0) (ho2 : R.seps.length = 0) (hm : L.pairs.length = 0) (hn : R.pairs.length = 0) :
    Calls Try.prog 109 #[vF pg wd, vH x L s y R] w fun e w' => e = .returned (.bool true) ∧ Below w.heap.size w w' := by
  have hlp := hL.hp
  have HL := Lib.hid (fun W (h : Below (stW w pg wd x L s y R).heap.size (stW w pg wd x L s y R) W) => (RdN.below hL st_base).below h)
  have HRD := Lib.hid (fun W (h : Below (stW w pg wd x L s y R).heap.size (stW w pg wd x L s y R) W) => (RdN.below hR st_base).below h)
  have HM := Lib.hid hm
  have HNN := Lib.hid hn
  have HO1 := Lib.hid ho1
  have HO2 := Lib.hid ho2
  clear hL hR hm hn ho1 ho2
  go_enter Try.func109, Try.ntmps109
  go_wp2
  obtain ⟨W0, hW0⟩ : ∃ W0, W0 = stW w pg wd x L s y R := ⟨_, rfl⟩
  have HB0 : Hid (Below (stW w pg wd x L s y R).heap.size (stW w pg wd x L s y R) W0) := Lib.hid (by rw [hW0]; exact Below.refl _ _)
  simp only [stW, cells7, node3] at hW0
  rw [← hW0]
  clear hW0
  obtain ⟨⟨⟨s0, s1⟩, s2⟩, ⟨m0, m1⟩, ⟨n0, n1⟩, z0, z1, z2, z3⟩ := st_facts HB0.out
  rw [HO1.out] at m1
  rw [HM.out] at m0
  refine wp_region_grow (by kernel_rfl) (by kernel_rfl) ?_
  repeat (any_goals (first | go_big_quiet_step (fail) | quiet_step (fail)))
  refine wpQuiet_nil ?_
  intro w1 hb
  have HB1 := Lib.hid (HB0.out.trans (hb.mono (by first | exact Nat.le_refl _ | exact HB0.out.size)))
  clear hb
  clear s0 s1 s2 m0 m1 n0 n1 z0 z1 z2 z3
  go_wp2
  obtain ⟨⟨⟨s0, s1⟩, s2⟩, ⟨m0, m1⟩, ⟨n0, n1⟩, z0, z1, z2, z3⟩ := st_facts HB1.out
  rw [HO2.out] at n1
  rw [HNN.out] at n0
  refine wp_region_grow (by kernel_rfl) (by kernel_rfl) ?_
  repeat (any_goals (first | go_big_quiet_step (fail) | quiet_step (fail)))
  refine wpQuiet_nil ?_
  intro w2 hb
  have HB2 := Lib.hid (HB1.out.trans (hb.mono (by first | exact Nat.le_refl _ | exact HB1.out.size)))
  clear hb
  clear s0 s1 s2 m0 m1 n0 n1 z0 z1 z2 z3
  go_wp2
  go_ret
  exact ⟨rfl, st_base.trans (HB2.out.mono st_base.size)⟩

theorem st_leaf_g2 (pg wd : Int) (x : VH) (L : NodeD) (s : ByteArray) (y : VH) (R : NodeD) (w : World) (hL : RdN w x.A0 x.c0 x.A1 x.c1 x.A2 x.c2 L) (hR : RdN w y.A0 y.c0 y.A1 y.c1 y.A2 y.c2 R) (_h0 : 0 ≤ pg) (_h1 : pg ≤ 8192) (_hsm : s.size ≤ 140737488355328) (k1 : ¬ (s.size : Int) < 1) (k2 : ¬ pg / 16 < (s.size : Int)) (ho1 : L.seps.length = 0) (ho2 : R.seps.length = 0) (hm : L.pairs.length = 0) (n : Nat) (hn : R.pairs.length = n + 1) (rk : ByteArray) (hrk : keyAt R.pairs 0 = rk) (hq : Op.bytesLess rk.toList s.toList = false) :
    Calls Try.prog 109 #[vF pg wd, vH x L s y R] w fun e w' => e = .returned (.bool true) ∧ Below w.heap.size w w' := by
  have hlp := hL.hp
  have HL := Lib.hid (fun W (h : Below (stW w pg wd x L s y R).heap.size (stW w pg wd x L s y R) W) => (RdN.below hL st_base).below h)
  have HRD := Lib.hid (fun W (h : Below (stW w pg wd x L s y R).heap.size (stW w pg wd x L s y R) W) => (RdN.below hR st_base).below h)
  have HM := Lib.hid hm
  have HNN := Lib.hid hn
  have HRK := Lib.hid hrk
  have HO1 := Lib.hid ho1
  have HO2 := Lib.hid ho2
  clear hL hR hm hn hrk ho1 ho2
  go_enter Try.func109, Try.ntmps109
  go_wp2
  obtain ⟨W0, hW0⟩ : ∃ W0, W0 = stW w pg wd x L s y R := ⟨_, rfl⟩
  have HB0 : Hid (Below (stW w pg wd x L s y R).heap.size (stW w pg wd x L s y R) W0) := Lib.hid (by rw [hW0]; exact Below.refl _ _)
  simp only [stW, cells7, node3] at hW0
  rw [← hW0]
  clear hW0
  obtain ⟨⟨⟨s0, s1⟩, s2⟩, ⟨m0, m1⟩, ⟨n0, n1⟩, z0, z1, z2, z3⟩ := st_facts HB0.out
  rw [HO1.out] at m1
  rw [HM.out] at m0
  refine wp_region_grow (by kernel_rfl) (by kernel_rfl) ?_
  repeat (any_goals (first | go_big_quiet_step (fail) | quiet_step (fail)))
  refine wpQuiet_nil ?_
  intro w1 hb
  have HB1 := Lib.hid (HB0.out.trans (hb.mono (by first | exact Nat.le_refl _ | exact HB0.out.size)))
  clear hb
  clear s0 s1 s2 m0 m1 n0 n1 z0 z1 z2 z3
  go_wp2
  obtain ⟨⟨⟨s0, s1⟩, s2⟩, ⟨m0, m1⟩, ⟨n0, n1⟩, z0, z1, z2, z3⟩ := st_facts HB1.out
  rw [HO2.out] at n1
  have hn := HNN.out
  obtain ⟨bb, bo, bx, bk, bj⟩ := pairs_at (HRD.out _ HB1.out).pairs (show 0 < R.pairs.length by omega)
  clear bj
  rw [← keyAt_get (show 0 < R.pairs.length by omega), HRK.out] at bk
  have bl : bb < w1.heap.size := World.block_lt_of_cell? _ _ bk
  rw [bx, hn] at n0
  simp only [Nat.zero_mul, Nat.add_zero] at bk
  clear hn
  refine wp_region_grow (by kernel_rfl) (by kernel_rfl) ?_
  repeat (any_goals (first | go_big_quiet_step (fail) | quiet_step (fail)))
  refine wpQuiet_nil ?_
  intro w2 hb
  have HB2 := Lib.hid (HB1.out.trans (hb.mono (by first | exact Nat.le_refl _ | exact HB1.out.size)))
  clear hb
  clear s0 s1 s2 m0 m1 n0 n1 z0 z1 z2 z3
  clear bk bl bx
  go_wp2
  go_ret
  exact ⟨rfl, st_base.trans (HB2.out.mono st_base.size)⟩

theorem st_leaf_g3 (pg wd : Int) (x : VH) (L : NodeD) (s : ByteArray) (y : VH) (R : NodeD) (w : World) (hL : RdN w x.A0 x.c0 x.A1 x.c1 x.A2 x.c2 L) (hR : RdN w y.A0 y.c0 y.A1 y.c1 y.A2 y.c2 R) (_h0 : 0 ≤ pg) (_h1 : pg ≤ 8192) (_hsm : s.size ≤ 140737488355328) (k1 : ¬ (s.size : Int) < 1) (k2 : ¬ pg / 16 < (s.size : Int)) (ho1 : L.seps.length = 0) (ho2 : R.seps.length = 0) (m : Nat) (hm : L.pairs.length = m + 1) (lk : ByteArray) (hlk : keyAt L.pairs m = lk) (ho : Op.bytesLess lk.toList s.toList = true) (hn : R.pairs.length = 0) :
    Calls Try.prog 109 #[vF pg wd, vH x L s y R] w fun e w' => e = .returned (.bool true) ∧ Below w.heap.size w w' := by
  have hlp := hL.hp
  have HL := Lib.hid (fun W (h : Below (stW w pg wd x L s y R).heap.size (stW w pg wd x L s y R) W) => (RdN.below hL st_base).below h)
  have HRD := Lib.hid (fun W (h : Below (stW w pg wd x L s y R).heap.size (stW w pg wd x L s y R) W) => (RdN.below hR st_base).below h)
  have HM := Lib.hid hm
  have HNN := Lib.hid hn
  have HLK := Lib.hid hlk
  have HO1 := Lib.hid ho1
  have HO2 := Lib.hid ho2
  clear hL hR hm hn hlk ho1 ho2
  go_enter Try.func109, Try.ntmps109
  go_wp2
  obtain ⟨W0, hW0⟩ : ∃ W0, W0 = stW w pg wd x L s y R := ⟨_, rfl⟩
  have HB0 : Hid (Below (stW w pg wd x L s y R).heap.size (stW w pg wd x L s y R) W0) := Lib.hid (by rw [hW0]; exact Below.refl _ _)
  simp only [stW, cells7, node3] at hW0
  rw [← hW0]
  clear hW0
  obtain ⟨⟨⟨s0, s1⟩, s2⟩, ⟨m0, m1⟩, ⟨n0, n1⟩, z0, z1, z2, z3⟩ := st_facts HB0.out
  rw [HO1.out] at m1
  have hm := HM.out
  obtain ⟨ab, ao, ax, ak, aj⟩ := pairs_at (HL.out _ HB0.out).pairs (show m < L.pairs.length by omega)
  clear aj
  rw [← keyAt_get (show m < L.pairs.length by omega), HLK.out] at ak
  have al : ab < W0.heap.size := World.block_lt_of_cell? _ _ ak
  rw [ax, hm] at m0
  have hm0 : (0 : Int) < (m : Int) + 1 := by omega
  have hmb : m ≤ 140737488355328 := by omega
  clear hm
  refine wp_region_grow (by kernel_rfl) (by kernel_rfl) ?_
  repeat (any_goals (first | go_big_quiet_step (fail) | quiet_step (fail)))
  refine wpQuiet_nil ?_
  intro w1 hb
  have HB1 := Lib.hid (HB0.out.trans (hb.mono (by first | exact Nat.le_refl _ | exact HB0.out.size)))
  clear hb
  clear s0 s1 s2 m0 m1 n0 n1 z0 z1 z2 z3
  clear ak al ax
  go_wp2
  obtain ⟨⟨⟨s0, s1⟩, s2⟩, ⟨m0, m1⟩, ⟨n0, n1⟩, z0, z1, z2, z3⟩ := st_facts HB1.out
  rw [HO2.out] at n1
  rw [HNN.out] at n0
  refine wp_region_grow (by kernel_rfl) (by kernel_rfl) ?_
  repeat (any_goals (first | go_big_quiet_step (fail) | quiet_step (fail)))
  refine wpQuiet_nil ?_
  intro w2 hb
  have HB2 := Lib.hid (HB1.out.trans (hb.mono (by first | exact Nat.le_refl _ | exact HB1.out.size)))
  clear hb
  clear s0 s1 s2 m0 m1 n0 n1 z0 z1 z2 z3
  go_wp2
  go_ret
  exact ⟨rfl, st_base.trans (HB2.out.mono st_base.size)⟩

theorem st_leaf_g4 (pg wd : Int) (x : VH) (L : NodeD) (s : ByteArray) (y : VH) (R : NodeD) (w : World) (hL : RdN w x.A0 x.c0 x.A1 x.c1 x.A2 x.c2 L) (hR : RdN w y.A0 y.c0 y.A1 y.c1 y.A2 y.c2 R) (_h0 : 0 ≤ pg) (_h1 : pg ≤ 8192) (_hsm : s.size ≤ 140737488355328) (k1 : ¬ (s.size : Int) < 1) (k2 : ¬ pg / 16 < (s.size : Int)) (ho1 : L.seps.length = 0) (ho2 : R.seps.length = 0) (m : Nat) (hm : L.pairs.length = m + 1) (lk : ByteArray) (hlk : keyAt L.pairs m = lk) (ho : Op.bytesLess lk.toList s.toList = true) (n : Nat) (hn : R.pairs.length = n + 1) (rk : ByteArray) (hrk : keyAt R.pairs 0 = rk) (hq : Op.bytesLess rk.toList s.toList = false) :
    Calls Try.prog 109 #[vF pg wd, vH x L s y R] w fun e w' => e = .returned (.bool true) ∧ Below w.heap.size w w' := by
  have hlp := hL.hp
  have HL := Lib.hid (fun W (h : Below (stW w pg wd x L s y R).heap.size (stW w pg wd x L s y R) W) => (RdN.below hL st_base).below h)
  have HRD := Lib.hid (fun W (h : Below (stW w pg wd x L s y R).heap.size (stW w pg wd x L s y R) W) => (RdN.below hR st_base).below h)
  have HM := Lib.hid hm
  have HNN := Lib.hid hn
  have HLK := Lib.hid hlk
  have HRK := Lib.hid hrk
  have HO1 := Lib.hid ho1
  have HO2 := Lib.hid ho2
  clear hL hR hm hn hlk hrk ho1 ho2
  go_enter Try.func109, Try.ntmps109
  go_wp2
  obtain ⟨W0, hW0⟩ : ∃ W0, W0 = stW w pg wd x L s y R := ⟨_, rfl⟩
  have HB0 : Hid (Below (stW w pg wd x L s y R).heap.size (stW w pg wd x L s y R) W0) := Lib.hid (by rw [hW0]; exact Below.refl _ _)
  simp only [stW, cells7, node3] at hW0
  rw [← hW0]
  clear hW0
  obtain ⟨⟨⟨s0, s1⟩, s2⟩, ⟨m0, m1⟩, ⟨n0, n1⟩, z0, z1, z2, z3⟩ := st_facts HB0.out
  rw [HO1.out] at m1
  have hm := HM.out
  obtain ⟨ab, ao, ax, ak, aj⟩ := pairs_at (HL.out _ HB0.out).pairs (show m < L.pairs.length by omega)
  clear aj
  rw [← keyAt_get (show m < L.pairs.length by omega), HLK.out] at ak
  have al : ab < W0.heap.size := World.block_lt_of_cell? _ _ ak
  rw [ax, hm] at m0
  have hm0 : (0 : Int) < (m : Int) + 1 := by omega
  have hmb : m ≤ 140737488355328 := by omega
  clear hm
  refine wp_region_grow (by kernel_rfl) (by kernel_rfl) ?_
  repeat (any_goals (first | go_big_quiet_step (fail) | quiet_step (fail)))
  refine wpQuiet_nil ?_
  intro w1 hb
  have HB1 := Lib.hid (HB0.out.trans (hb.mono (by first | exact Nat.le_refl _ | exact HB0.out.size)))
  clear hb
  clear s0 s1 s2 m0 m1 n0 n1 z0 z1 z2 z3
  clear ak al ax
  go_wp2
  obtain ⟨⟨⟨s0, s1⟩, s2⟩, ⟨m0, m1⟩, ⟨n0, n1⟩, z0, z1, z2, z3⟩ := st_facts HB1.out
  rw [HO2.out] at n1
  have hn := HNN.out
  obtain ⟨bb, bo, bx, bk, bj⟩ := pairs_at (HRD.out _ HB1.out).pairs (show 0 < R.pairs.length by omega)
  clear bj
  rw [← keyAt_get (show 0 < R.pairs.length by omega), HRK.out] at bk
  have bl : bb < w1.heap.size := World.block_lt_of_cell? _ _ bk
  rw [bx, hn] at n0
  simp only [Nat.zero_mul, Nat.add_zero] at bk
  clear hn
  refine wp_region_grow (by kernel_rfl) (by kernel_rfl) ?_
  repeat (any_goals (first | go_big_quiet_step (fail) | quiet_step (fail)))
  refine wpQuiet_nil ?_
  intro w2 hb
  have HB2 := Lib.hid (HB1.out.trans (hb.mono (by first | exact Nat.le_refl _ | exact HB1.out.size)))
  clear hb
  clear s0 s1 s2 m0 m1 n0 n1 z0 z1 z2 z3
  clear bk bl bx
  go_wp2
  go_ret
  exact ⟨rfl, st_base.trans (HB2.out.mono st_base.size)⟩

end Go.Proofs.Ytajkoeodabmgeaa

