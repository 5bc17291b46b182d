import Derived.Test.YtonjgedhmmnolaaGreatDoorZ17
import Derived.Test.YtonjgedhmmnolaaGreatDoorZ15

section
namespace Go.Proofs.YtonjgedhmmnolaaGreatDoor
open Go.RowKit
set_option maxHeartbeats 1000000
set_option maxRecDepth 100000

theorem RdQ.folded {w : World} {q : QryV} (h : RdQ w q) {fo : Int} (hf : 0 ≤ fo ∧ fo ≤ 255) {ov : ByteArray} (ho : ov.size ≤ 140737488355328) : RdQ w (q.folded fo ov) :=
  ⟨h.fr, h.tt, h.wh, h.wc, h.wb, h.wx, .none_, Nat.le_refl _, by show 0 * 16 ≤ 140737488355328; decide, (by intro x hx; simp [QryV.folded] at hx), h.nt, ho, by show -9223372036854775808 ≤ (0 : Int) ∧ (0 : Int) ≤ 9223372036854775807; decide, hf⟩
/-- What a slice of one row of one item reads as. -/
theorem one_item {W : World} {RO : List VI} {A : Option Addr} {c : Nat} {x : ItemD} (hR : RdR W A c RO) (hd : rowsD RO = [[x]]) :
    RO.length = 1 ∧ ∃ ab ao xb xo xc y, A = some ⟨ab, ao, none⟩ ∧ RdI W (some ⟨xb, xo, none⟩) xc [y] ∧ y.data = x ∧ W.cell? ⟨ab, ao, none⟩ = some (.slice (some ⟨xb, xo, none⟩) 1 xc) := by
  obtain ⟨z, rfl⟩ : ∃ x, RO = [x] := by
    rcases RO with _ | ⟨x, _ | ⟨y, l⟩⟩
    · simp [rowsD] at hd
    · exact ⟨x, rfl⟩
    · simp [rowsD] at hd
  refine ⟨rfl, ?_⟩
  obtain ⟨ab, ao, rfl, _⟩ := hR.rd.2 (by simp)
  have r0 := row_at hR.rd (k := 0) (by simp)
  have hx := hR.hx z (by simp)
  have hl : VI.dataL z.l = [x] := by simpa [rowsD] using hd
  rcases z with ⟨_, _, _, _, _, xA, xc, xl⟩
  simp only [VI.l] at hl
  obtain ⟨y, rfl⟩ : ∃ y, xl = [y] := by
    rcases xl with _ | ⟨y, _ | ⟨z, l⟩⟩
    · simp [VI.dataL] at hl
    · exact ⟨y, rfl⟩
    · simp [VI.dataL] at hl
  have hy : y.data = x := by simpa [VI.dataL] using hl
  have hI := hx.list
  simp only [VI.A, VI.c, VI.l] at hI r0
  obtain ⟨xb, xo, rfl, _⟩ := hI.rd.2 (by simp)
  simp only [List.getElem_cons_zero, List.length_singleton] at r0
  exact ⟨ab, ao, xb, xo, xc, y, rfl, hI, hy, r0⟩
/-- A step that writes one cell of a younger block. -/
theorem below_cell {w W : World} (h : Below w.heap.size w W) {g o : Nat} (v : Value) (hg : w.heap.size < g) : Below w.heap.size w (W.setCell ⟨g, o, none⟩ v) :=
  h.trans (((Kept.refl (fun k => k = g) W).setCell v (.inl rfl)).below h.size (fun k hk e => by omega))
/-- A cell that holds a number of one byte and has a text behind it belongs to no item: it may be written. -/
theorem icells_at (l : List VI) (j : Nat) {m : Int} (h : (icells l)[j]? = some (.int .u8 m)) : ∃ b, (icells l)[j + 1]? = some (.bool b) := by
  have hj : j < l.length * 6 := by rw [← icells_len]; exact (List.getElem?_eq_some_iff.1 h).1
  have hi : j / 6 < l.length := (Nat.div_lt_iff_lt_mul (by decide)).2 hj
  have hje : j = j / 6 * 6 + j % 6 := by omega
  have hp := flat_get VI.cells 6 l (fun _ _ => rfl) (j / 6) hi
  have hr : j % 6 < 6 := Nat.mod_lt _ (by decide)
  have h1 := hp (j % 6) hr
  rw [← hje] at h1
  rw [show List.flatMap VI.cells l = icells l from rfl, h] at h1
  obtain ⟨r, hrr⟩ : ∃ r, j % 6 = r := ⟨_, rfl⟩
  rw [hrr] at h1 hr
  match r, hr, h1 with
  | 0, _, _ =>
    have h2 := hp 1 (by decide)
    rw [show j / 6 * 6 + 1 = j + 1 by omega] at h2
    exact ⟨l[j / 6].b, h2.trans rfl⟩
  | 1, _, h1 => cases h1
  | 2, _, h1 => cases h1
  | 3, _, h1 => cases h1
  | 4, _, h1 => cases h1
  | 5, _, h1 => cases h1
theorem cell_other (w : World) (g o : Nat) (v : Value) (b p : Nat) (h : ¬ (b = g ∧ p = o)) : (w.setCell ⟨g, o, none⟩ v).cell? ⟨b, p, none⟩ = w.cell? ⟨b, p, none⟩ := by
  refine World.cell?_setCell_other w _ _ v ?_
  intro e
  cases e
  exact h ⟨rfl, rfl⟩
theorem RdV.patch {w : World} {x : VI} (h : RdV w x) {g o : Nat} {m : Int} {s : ByteArray} (h7 : w.cell? ⟨g, o, none⟩ = some (.int .u8 m)) (h8 : w.cell? ⟨g, o + 1, none⟩ = some (.string s)) (v : Value) : RdV (w.setCell ⟨g, o, none⟩ v) x := by
  induction h with
  | mk x hl hc hb ht hk hf hn hx ih =>
    refine .mk x ⟨hl.1, fun h0 => ?_⟩ hc hb ht hk hf hn ih
    obtain ⟨b, p, e, hcell⟩ := hl.2 h0
    refine ⟨b, p, e, fun j u hu => ?_⟩
    rw [cell_other]
    · exact hcell j u hu
    · rintro ⟨rfl, hp⟩
      have h1 := hcell j u hu
      rw [hp, h7] at h1
      injection h1 with h1
      rw [← h1] at hu
      obtain ⟨bb, hbb⟩ := icells_at x.l j hu
      have h2 := hcell (j + 1) _ hbb
      rw [show p + (j + 1) = o + 1 by omega, h8] at h2
      cases h2
theorem RdR.patch {w : World} {A : Option Addr} {c : Nat} {R : List VI} (h : RdR w A c R) {g o : Nat} {m : Int} {s : ByteArray} (h7 : w.cell? ⟨g, o, none⟩ = some (.int .u8 m)) (h8 : w.cell? ⟨g, o + 1, none⟩ = some (.string s)) (v : Value) : RdR (w.setCell ⟨g, o, none⟩ v) A c R := by
  refine ⟨⟨h.rd.1, fun h0 => ?_⟩, h.hc, h.hb, fun x hx => (h.hx x hx).patch h7 h8 v⟩
  obtain ⟨b, p, e, hcell⟩ := h.rd.2 h0
  refine ⟨b, p, e, fun j u hu => ?_⟩
  rw [cell_other]
  · exact hcell j u hu
  · rintro ⟨rfl, hp⟩
    have h1 := hcell j u hu
    rw [hp, h7] at h1
    injection h1 with h1
    rw [← h1, List.getElem?_map] at hu
    cases hg : R[j]? with
    | none => rw [hg] at hu; cases hu
    | some y => rw [hg] at hu; simp at hu
set_option maxHeartbeats 3000000 in
theorem folds_end {pg wd : Int} {tn : ByteArray} {cols : List ColD} {keys : Int} {A : Option Addr} {c : Nat} {qt : ByteArray} {fr tt : List VI} {wh : List CondD} {qc : List ByteArray} {qd : Bool} {ql qf : Int} {qo : ByteArray} {AF : Option Addr} {cF : Nat} {AT : Option Addr} {cT : Nat} {AW : Option Addr} {cW : Nat} {AC : Option Addr} {cC : Nat} {P : List (ByteArray × ByteArray)} {AP : Option Addr} {cP : Nat} {AR : Option Addr} {nR cR : Nat} {pf ov : ByteArray} {w : World} {u0 u1 u3 u4 u6 u7 u8 u9 u10 u11 u12 u13 u14 u15 u16 u17 u18 u19 u20 u21 u22 u23 u24 u25 u26 u27 u28 u29 u30 u31 u32 u33 u34 u35 u36 u37 u38 u39 u40 u41 u42 u43 u44 u45 u46 u47 u48 u49 u50 u51 u52 u53 u54 u55 u56 u57 u58 u59 u60 u61 u62 u63 u64 u65 u66 u67 u68 u69 u70 u71 u72 u73 u74 u75 u76 u77 u78 u79 u80 u81 u82 u83 u84 u85 u86 u87 u88 u89 u90 u91 u92 u93 u94 u95 u96 u97 u98 u99 u100 u101 u102 u103 u104 u105 u106 u107 u108 u109 u110 u111 u112 u113 u114 u115 u116 u117 u118 u119 u120 u121 u122 u123 u124 u125 u126 u127 u128 u129 u130 u131 u132 u133 u134 u135 u136 u137 u138 u139 u140 u141 u142 u143 u144 u145 u146 u147 u148 u149 u150 u151 u152 u153 u154 u155 u156 u157 u158 u159 u160 u161 u162 u163 u164 u165 u166 u167 u168 u169 u170 u171 u172 u173 u174 u175 u176 : Value} {W : World} {g : Nat}
    (HX : Hid (RdX w ⟨pg, wd, ⟨tn, cols, keys⟩, A, c, ⟨qt, fr, tt, wh, qc, qd, ql, qf, qo, AF, cF, AT, cT, AW, cW, AC, cC⟩, P, AP, cP, AR, nR, cR, pf⟩)) (HC : Hid (∃ m, w.cell? ⟨1, 0, none⟩ = some (.int .i64 m))) (HOV : Hid (ov.size ≤ 140737488355328)) (HP : Hid (P.length * 64 ≤ 140737488355328)) (HRX : Hid (W.heap[w.heap.size]? = some (.cells #[.int .i64 pg, .int .i64 wd, .string tn, .slice A cols.length c, .int .i64 keys, .string qt, .slice AF fr.length cF, .slice AT tt.length cT, .slice AW wh.length cW, .slice AC qc.length cC, .bool qd, .int .i64 ql, .int .u8 qf, .string qo, .slice AP P.length cP, .slice AR nR cR, .string pf] 37 (0, 0)))) (HRQ : Hid (W.heap[g]? = some (.cells #[.string qt, .slice AF fr.length cF, .slice AT tt.length cT, .slice AW wh.length cW, .slice none 0 0, .bool qd, .int .i64 0, .int .u8 4, .string ov] 33 (0, 0)))) (HB : Hid (Below w.heap.size w W)) (HG : Hid (w.heap.size < g)) :
    (codeAfter 14 (Tryz.f6.body.getD .skip)).wp Tryz.prog (bodyPost Tryz.prog Tryz.f6 (fun e w' => e = .returned (.bool true) ∧ Below w.heap.size w w')) ⟨#[u0, u1, .pointer (some ⟨w.heap.size, 0, none⟩), u3, u4, .pointer (some ⟨g, 0, none⟩), u6, u7, u8, u9, u10, u11, u12, u13, u14, u15, u16, u17, u18, u19, u20, u21, u22, u23, u24, u25, u26, u27, u28, u29, u30, u31, u32, u33, u34, u35, u36, u37, u38, u39, u40, u41, u42, u43, u44, u45, u46, u47, u48, u49, u50, u51, u52, u53, u54, u55, u56, u57, u58, u59, u60, u61, u62, u63, u64, u65, u66, u67, u68, u69, u70, u71, u72, u73, u74, u75, u76, u77, u78, u79, u80, u81, u82, u83, u84, u85, u86, u87, u88, u89, u90, u91, u92, u93, u94, u95, u96, u97, u98, u99, u100, u101, u102, u103, u104, u105, u106, u107, u108, u109, u110, u111, u112, u113, u114, u115, u116, u117, u118, u119, u120, u121, u122, u123, u124, u125, u126, u127, u128, u129, u130, u131, u132, u133, u134, u135, u136, u137, u138, u139, u140, u141, u142, u143, u144, u145, u146, u147, u148, u149, u150, u151, u152, u153, u154, u155, u156, u157, u158, u159, u160, u161, u162, u163, u164, u165, u166, u167, u168, u169, u170, u171, u172, u173, u174, u175, u176], []⟩ W := by
  simp only [Tryz.f6, Option.getD_some, codeAfter]
  have HGX := Lib.hid (show w.heap.size ≠ g by have := HG.out; omega)
  obtain ⟨y0, y1, y2, y3, y4, y5, y6, y7, y8, z1⟩ := q_cells HRQ.out
  have y9 := frozen_of_row W g 7 _ _ HRQ.out
  go_upto_region 23 with fail
  clear y0 y1 y2 y3 y4 y5 y6 y7 y8 z1 y9
  have HRQ1 := Lib.hid (show (W.setCell ⟨g, 7, none⟩ (.int .u8 2)).heap[g]? = some (.cells #[.string qt, .slice AF fr.length cF, .slice AT tt.length cT, .slice AW wh.length cW, .slice none 0 0, .bool qd, .int .i64 0, .int .u8 2, .string ov] 33 (0, 0)) from heap_setCell_same _ _ _ _ _ _ HRQ.out)
  have HRX1 := Lib.hid ((heap_setCell_other W ⟨g, 7, none⟩ w.heap.size (.int .u8 2) HGX.out).trans HRX.out)
  have HB1 := Lib.hid (below_cell (o := 7) HB.out (.int .u8 2) HG.out)
  obtain ⟨W1, hW1⟩ : ∃ V, W.setCell ⟨g, 7, none⟩ (.int .u8 2) = V := ⟨_, rfl⟩
  have HW1 := Lib.hid hW1
  rw [HW1.out] at HRQ1 HRX1 HB1
  rw [HW1.out]
  clear hW1
  obtain ⟨x0, x1, x2, x3, x4, x5, x6, x7, x8, x9, x10, x11, x12, x13, x14, x15, x16, z0⟩ := in_cells HRX1.out
  obtain ⟨y0, y1, y2, y3, y4, y5, y6, y7, y8, z1⟩ := q_cells HRQ1.out
  go_upto_region 24 with (go_at_call 15; go_must (refine (Pick_c pg wd A c ⟨tn, cols, keys⟩ (QryV.folded ⟨qt, fr, tt, wh, qc, qd, ql, qf, qo, AF, cF, AT, cT, AW, cW, AC, cC⟩ 2 ov) AP cP P W1 (HX.out.t.below HB1.out) ((HX.out.q.folded (by decide) HOV.out).below HB1.out) (HX.out.p.below HB1.out) (cell_keep HC.out (Nat.le_refl _) HB1.out) (fun _ => HP.out) (by show 0 * 64 ≤ 140737488355328; decide)).mono ?_; rintro e W2 ⟨RC, AC1, cC1, nC, rfl, hok, hrd, hb⟩; have HOC := Lib.hid hok; have HRC := Lib.hid hrd; have HRQ2 := Lib.hid (row_keep' HRQ1.out hb); have HRX2 := Lib.hid (row_keep' HRX1.out hb); have HB2 := Lib.hid (HB1.out.trans (hb.mono HB1.out.size)); clear hok hrd hb x0 x1 x2 x3 x4 x5 x6 x7 x8 x9 x10 x11 x12 x13 x14 x15 x16 z0 y0 y1 y2 y3 y4 y5 y6 y7 y8 z1))
  obtain ⟨y0, y1, y2, y3, y4, y5, y6, y7, y8, z1⟩ := q_cells HRQ2.out
  have y9 := frozen_of_row W2 g 7 _ _ HRQ2.out
  go_upto_region 25 with fail
  clear y0 y1 y2 y3 y4 y5 y6 y7 y8 z1 y9
  have HRQ3 := Lib.hid (show (W2.setCell ⟨g, 7, none⟩ (.int .u8 3)).heap[g]? = some (.cells #[.string qt, .slice AF fr.length cF, .slice AT tt.length cT, .slice AW wh.length cW, .slice none 0 0, .bool qd, .int .i64 0, .int .u8 3, .string ov] 33 (0, 0)) from heap_setCell_same _ _ _ _ _ _ HRQ2.out)
  have HRX3 := Lib.hid ((heap_setCell_other W2 ⟨g, 7, none⟩ w.heap.size (.int .u8 3) HGX.out).trans HRX2.out)
  have HB3 := Lib.hid (below_cell (o := 7) HB2.out (.int .u8 3) HG.out)
  have HKC := Lib.hid (show RdR (W2.setCell ⟨g, 7, none⟩ (.int .u8 3)) AC1 cC1 RC from HRC.out.patch (cell_of_row _ _ 7 _ _ _ HRQ2.out) (cell_of_row _ _ 8 _ _ _ HRQ2.out) _)
  obtain ⟨W3, hW3⟩ : ∃ V, W2.setCell ⟨g, 7, none⟩ (.int .u8 3) = V := ⟨_, rfl⟩
  have HW3 := Lib.hid hW3
  rw [HW3.out] at HRQ3 HRX3 HB3 HKC
  rw [HW3.out]
  clear hW3
  obtain ⟨x0, x1, x2, x3, x4, x5, x6, x7, x8, x9, x10, x11, x12, x13, x14, x15, x16, z0⟩ := in_cells HRX3.out
  obtain ⟨y0, y1, y2, y3, y4, y5, y6, y7, y8, z1⟩ := q_cells HRQ3.out
  go_upto_region 26 with (go_at_call 15; go_must (refine (Pick_c pg wd A c ⟨tn, cols, keys⟩ (QryV.folded ⟨qt, fr, tt, wh, qc, qd, ql, qf, qo, AF, cF, AT, cT, AW, cW, AC, cC⟩ 3 ov) AP cP P W3 (HX.out.t.below HB3.out) ((HX.out.q.folded (by decide) HOV.out).below HB3.out) (HX.out.p.below HB3.out) (cell_keep HC.out (Nat.le_refl _) HB3.out) (fun _ => HP.out) (by show 0 * 64 ≤ 140737488355328; decide)).mono ?_; rintro e W4 ⟨RD, AD1, cD1, nD, rfl, hok, hrd, hb⟩; have HOD := Lib.hid (folds_pair HOC.out hok); have HRD := Lib.hid hrd; have HKC4 := Lib.hid (HKC.out.below hb); have HB4 := Lib.hid (HB3.out.trans (hb.mono HB3.out.size)); clear hok hrd hb x0 x1 x2 x3 x4 x5 x6 x7 x8 x9 x10 x11 x12 x13 x14 x15 x16 z0 y0 y1 y2 y3 y4 y5 y6 y7 y8 z1))
  rw [← HOD.out.1]
  have e0 : ((nC : Int) != nC) = false := by simp
  by_cases hn : nC = 0
  · obtain ⟨dx, dy, hc1, hd1, hle⟩ := HOD.out.2 hn
    have z2 := zz hn
    obtain ⟨lC, ab, ao, xb, xo, xc, x, rfl, hI, hxd, r0⟩ := one_item HKC4.out hc1
    obtain ⟨lD, mb, mo, yb, yo, yc, y, rfl, hJ, hyd, s0⟩ := one_item HRD.out hd1
    have HLE := Lib.hid (show cmpI x.data y.data ≤ 0 by rw [hxd, hyd]; exact hle)
    have HI := Lib.hid hI
    have HJ := Lib.hid hJ
    have HR0 := Lib.hid (fun V (h : Below W4.heap.size W4 V) => h.cell (p := ⟨ab, ao, none⟩) (World.block_lt_of_cell? _ _ r0) |>.trans r0)
    have HS0 := Lib.hid (fun V (h : Below W4.heap.size W4 V) => h.cell (p := ⟨mb, mo, none⟩) (World.block_lt_of_cell? _ _ s0) |>.trans s0)
    rw [lC, lD]
    clear hn hc1 hd1 hle hI hJ hxd hyd r0 s0 lC lD
    rcases x with ⟨xk, xbl, xn, xf, xt, xA, xcc, xl⟩
    rcases y with ⟨yk, ybl, yn, yf, yt, yA, ycc, yl⟩
    have HIT := Lib.hid (fun V (h : Below W4.heap.size W4 V) => item_at (HI.out.below h).rd (k := 0) (by simp))
    have HIU := Lib.hid (fun V (h : Below W4.heap.size W4 V) => item_at (HJ.out.below h).rd (k := 0) (by simp))
    simp only [List.getElem_cons_zero, Nat.zero_mul, Nat.add_zero, VI.k, VI.b, VI.n, VI.f, VI.t, VI.A, VI.c, VI.l] at HIT HIU
    go_upto_region 30 with fail
    refine wp_region_sched (S := fun V => Below W4.heap.size W4 V) [(0, true), (1, true), (2, true), (3, true), (4, true), (5, true), (6, true), (7, true), (8, true), (9, true), (10, true), (11, true), (12, true), (13, true), (14, true), (15, true), (16, true), (17, true), (18, true), (19, false), (20, true), (21, true), (22, true), (23, false), (24, true), (25, true)] (by kernel_rfl) (by kernel_rfl) (by kernel_rfl) (fun _ _ d _ _ h => by cases d <;> exact h) (Below.refl _ _).drew ?_
    repeat (apply sched_take; (exact rfl); rfl; (intro W hW; have c0 := HR0.out W hW; have d0 := HS0.out W hW; obtain ⟨p0, p1, p2, p3, p4, p5⟩ := HIT.out W hW; obtain ⟨q0, q1, q2, q3, q4, q5⟩ := HIU.out W hW; go_simp; (try with_reducible rfl)); simp only [Act.put, List.setIfInBounds_toArray, List.set_cons_zero, List.set_cons_succ])
    apply sched_run; (exact rfl); rfl; intro K hK; go_simp
    have hbd := (Below.refl W4.heap.size W4).drew
    refine (Compare_c (.mk xk xbl xn xf xt xA xcc xl) (.mk yk ybl yn yf yt yA ycc yl) _ ((HI.out.hx _ (by simp)).grow hbd) ((HJ.out.hx _ (by simp)).grow hbd)).mono ?_
    rintro e V1 ⟨rfl, hb⟩
    have HV1 := Lib.hid (hbd.trans (hb.mono (show W4.heap.size ≤ _ from hbd.size)))
    clear hbd hb
    obtain ⟨ci, hci⟩ : ∃ ci, cmpI (VI.mk xk xbl xn xf xt xA xcc xl).data (VI.mk yk ybl yn yf yt yA ycc yl).data = ci := ⟨_, rfl⟩
    have HCI := Lib.hid hci
    rw [HCI.out] at HLE
    rw [HCI.out]
    have hle := HLE.out
    clear hci
    refine hK.out _ _ HV1.out (fun _ => ?_)
    clear hK K
    try simp only [Act.put, List.setIfInBounds_toArray, List.set_cons_zero, List.set_cons_succ]
    repeat (apply sched_take; (exact rfl); rfl; (intro W hW; go_simp; (try with_reducible rfl)); simp only [Act.put, List.setIfInBounds_toArray, List.set_cons_zero, List.set_cons_succ])
    apply sched_run; (exact rfl); rfl; intro K hK; go_simp
    refine (awake_c _ (cell_keep HC.out (Nat.le_refl _) (HB4.out.trans (HV1.out.mono HB4.out.size)))).mono ?_
    rintro e V2 ⟨rfl, hb⟩
    have HV2 := Lib.hid (HV1.out.trans (hb.mono HV1.out.size))
    clear hb
    refine hK.out _ _ HV2.out (fun _ => ?_)
    clear hK K
    try simp only [Act.put, List.setIfInBounds_toArray, List.set_cons_zero, List.set_cons_succ]
    repeat (apply sched_take; (exact rfl); rfl; (intro W hW; go_simp; (try with_reducible rfl)); simp only [Act.put, List.setIfInBounds_toArray, List.set_cons_zero, List.set_cons_succ])
    refine sched_done ?_
    go_wp2
    go_ret
    exact ⟨rfl, HB4.out.trans (HV2.out.mono HB4.out.size)⟩
  · have z2 := nz hn
    clear hn
    go_wp2_with (go_at_call 8; go_must (refine (awake_c W4 (cell_keep HC.out (Nat.le_refl _) HB4.out)).mono ?_; rintro e V ⟨rfl, hb⟩; have HB5 := Lib.hid (HB4.out.trans (hb.mono HB4.out.size)); clear hb))
    go_ret
    exact ⟨rfl, HB5.out⟩

end Go.Proofs.YtonjgedhmmnolaaGreatDoor
end

section
namespace Go.Proofs.YtonjgedhmmnolaaGreatDoor
open Go.RowKit
set_option maxHeartbeats 1000000
set_option maxRecDepth 100000

set_option maxHeartbeats 3000000 in
theorem folds_mid {pg wd : Int} {tn : ByteArray} {cols : List ColD} {keys : Int} {A : Option Addr} {c : Nat} {qt : ByteArray} {fr tt : List VI} {wh : List CondD} {qc : List ByteArray} {qd : Bool} {ql qf : Int} {qo : ByteArray} {AF : Option Addr} {cF : Nat} {AT : Option Addr} {cT : Nat} {AW : Option Addr} {cW : Nat} {AC : Option Addr} {cC : Nat} {P : List (ByteArray × ByteArray)} {AP : Option Addr} {cP : Nat} {AR : Option Addr} {nR cR : Nat} {pf ov : ByteArray} {w : World} {u0 u1 u3 u4 u7 u9 u10 u11 u12 u13 u14 u15 u16 u17 u18 u19 u20 u21 u22 u23 u24 u25 u26 u27 u28 u29 u30 u31 u32 u33 u34 u35 u36 u37 u38 u39 u40 u41 u42 u43 u44 u45 u46 u47 u48 u49 u50 u51 u52 u53 u54 u55 u56 u57 u58 u59 u60 u61 u62 u63 u64 u65 u66 u67 u68 u69 u70 u71 u72 u73 u74 u75 u76 u77 u78 u79 u80 u81 u82 u83 u84 u85 u86 u87 u88 u89 u90 u91 u92 u93 u94 u95 u96 u97 u98 u99 u100 u101 u102 u103 u104 u105 u106 u107 u108 u109 u110 u111 u112 u113 u114 u115 u116 u117 u118 u119 u120 u121 u122 u123 u124 u125 u126 u127 u128 u129 u130 u131 u132 u133 u134 u135 u136 u137 u138 u139 u140 u141 u142 u143 u144 u145 u146 u147 u148 u149 u150 u151 u152 u153 u154 u155 u156 u157 u158 u159 u160 u161 u162 u163 u164 u165 u166 u167 u168 u169 u170 u171 u172 u173 u174 u175 u176 : Value} {W : World} {g : Nat} {AV : Option Addr} {cV : Nat} {wb : Bool}
    (HX : Hid (RdX w ⟨pg, wd, ⟨tn, cols, keys⟩, A, c, ⟨qt, fr, tt, wh, qc, qd, ql, qf, qo, AF, cF, AT, cT, AW, cW, AC, cC⟩, P, AP, cP, AR, nR, cR, pf⟩)) (HC : Hid (∃ m, w.cell? ⟨1, 0, none⟩ = some (.int .i64 m))) (HOV : Hid (ov.size ≤ 140737488355328)) (HP : Hid (P.length * 64 ≤ 140737488355328)) (HRX : Hid (W.heap[w.heap.size]? = some (.cells #[.int .i64 pg, .int .i64 wd, .string tn, .slice A cols.length c, .int .i64 keys, .string qt, .slice AF fr.length cF, .slice AT tt.length cT, .slice AW wh.length cW, .slice AC qc.length cC, .bool qd, .int .i64 ql, .int .u8 qf, .string qo, .slice AP P.length cP, .slice AR nR cR, .string pf] 37 (0, 0)))) (HRQ : Hid (W.heap[g]? = some (.cells #[.string qt, .slice AF fr.length cF, .slice AT tt.length cT, .slice AW wh.length cW, .slice none 0 0, .bool qd, .int .i64 0, .int .u8 4, .string ov] 33 (0, 0)))) (HB : Hid (Below w.heap.size w W)) (HG : Hid (w.heap.size < g)) (HT : Hid (RdP W AV cV P.reverse)) (HWB : Hid (wb = true → ∃ c ∈ cols, c.name.data.toList = ov.data.toList ∧ c.kind = 3)) :
    (codeAfter 11 (Tryz.f6.body.getD .skip)).wp Tryz.prog (bodyPost Tryz.prog Tryz.f6 (fun e w' => e = .returned (.bool true) ∧ Below w.heap.size w w')) ⟨#[u0, u1, .pointer (some ⟨w.heap.size, 0, none⟩), u3, u4, .pointer (some ⟨g, 0, none⟩), .slice AV P.reverse.length cV, u7, .bool wb, u9, u10, u11, u12, u13, u14, u15, u16, u17, u18, u19, u20, u21, u22, u23, u24, u25, u26, u27, u28, u29, u30, u31, u32, u33, u34, u35, u36, u37, u38, u39, u40, u41, u42, u43, u44, u45, u46, u47, u48, u49, u50, u51, u52, u53, u54, u55, u56, u57, u58, u59, u60, u61, u62, u63, u64, u65, u66, u67, u68, u69, u70, u71, u72, u73, u74, u75, u76, u77, u78, u79, u80, u81, u82, u83, u84, u85, u86, u87, u88, u89, u90, u91, u92, u93, u94, u95, u96, u97, u98, u99, u100, u101, u102, u103, u104, u105, u106, u107, u108, u109, u110, u111, u112, u113, u114, u115, u116, u117, u118, u119, u120, u121, u122, u123, u124, u125, u126, u127, u128, u129, u130, u131, u132, u133, u134, u135, u136, u137, u138, u139, u140, u141, u142, u143, u144, u145, u146, u147, u148, u149, u150, u151, u152, u153, u154, u155, u156, u157, u158, u159, u160, u161, u162, u163, u164, u165, u166, u167, u168, u169, u170, u171, u172, u173, u174, u175, u176], []⟩ W := by
  simp only [Tryz.f6, Option.getD_some, codeAfter]
  obtain ⟨PR, hPR⟩ : ∃ PR, P.reverse = PR := ⟨_, rfl⟩
  have HPR := Lib.hid hPR
  rw [HPR.out] at HT
  rw [HPR.out]
  have HPB := Lib.hid (show PR.length * 64 ≤ 140737488355328 by rw [← hPR, List.length_reverse]; exact HP.out)
  clear hPR
  obtain ⟨x0, x1, x2, x3, x4, x5, x6, x7, x8, x9, x10, x11, x12, x13, x14, x15, x16, z0⟩ := in_cells HRX.out
  obtain ⟨y0, y1, y2, y3, y4, y5, y6, y7, y8, z1⟩ := q_cells HRQ.out
  go_upto_region 19 with (go_at_call 15; go_must (refine (Pick_c pg wd A c ⟨tn, cols, keys⟩ (QryV.folded ⟨qt, fr, tt, wh, qc, qd, ql, qf, qo, AF, cF, AT, cT, AW, cW, AC, cC⟩ 4 ov) AP cP P W (HX.out.t.below HB.out) ((HX.out.q.folded (by decide) HOV.out).below HB.out) (HX.out.p.below HB.out) (cell_keep HC.out (Nat.le_refl _) HB.out) (fun _ => HP.out) (by show 0 * 64 ≤ 140737488355328; decide)).mono ?_; rintro e W2 ⟨RA, AA1, cA1, nA, rfl, hok, hrd, hb⟩; have HOA := Lib.hid hok; have HRA := Lib.hid hrd; have HRQ2 := Lib.hid (row_keep' HRQ.out hb); have HRX2 := Lib.hid (row_keep' HRX.out hb); have HB2 := Lib.hid (HB.out.trans (hb.mono HB.out.size)); have HT2 := Lib.hid (HT.out.below hb); clear hok hrd hb x0 x1 x2 x3 x4 x5 x6 x7 x8 x9 x10 x11 x12 x13 x14 x15 x16 z0 y0 y1 y2 y3 y4 y5 y6 y7 y8 z1))
  obtain ⟨x0, x1, x2, x3, x4, x5, x6, x7, x8, x9, x10, x11, x12, x13, x14, x15, x16, z0⟩ := in_cells HRX2.out
  obtain ⟨y0, y1, y2, y3, y4, y5, y6, y7, y8, z1⟩ := q_cells HRQ2.out
  go_upto_region 20 with (go_at_call 15; go_must (refine (Pick_c pg wd A c ⟨tn, cols, keys⟩ (QryV.folded ⟨qt, fr, tt, wh, qc, qd, ql, qf, qo, AF, cF, AT, cT, AW, cW, AC, cC⟩ 4 ov) AV cV PR W2 (HX.out.t.below HB2.out) ((HX.out.q.folded (by decide) HOV.out).below HB2.out) HT2.out (cell_keep HC.out (Nat.le_refl _) HB2.out) (fun _ => HPB.out) (by show 0 * 64 ≤ 140737488355328; decide)).mono ?_; rintro e W3 ⟨RB, AB1, cB1, nB, rfl, hok, hrd, hb⟩; have HOB := Lib.hid hok; have HRB := Lib.hid hrd; have HRA3 := Lib.hid (HRA.out.below hb); have HRQ3 := Lib.hid (row_keep' HRQ2.out hb); have HRX3 := Lib.hid (row_keep' HRX2.out hb); have HB3 := Lib.hid (HB2.out.trans (hb.mono HB2.out.size)); clear hok hrd hb x0 x1 x2 x3 x4 x5 x6 x7 x8 x9 x10 x11 x12 x13 x14 x15 x16 z0 y0 y1 y2 y3 y4 y5 y6 y7 y8 z1))
  cases wb with
  | false =>
    go_upto_if 121 with fail
    go_step
    go_step
    go_step
    go_step
    exact folds_end HX HC HOV HP HRX3 HRQ3 HB3 HG
  | true =>
    have HSM := Lib.hid (folds_sum HOA.out (by rw [HPR.out]; exact HOB.out) (HWB.out rfl))
    have e0 : ((nA : Int) != nA) = false := by simp
    rw [← HSM.out.1]
    go_upto_if 121 with (go_at_call 17; go_must (refine (sameR_c RA RB AA1 AB1 cA1 cB1 _ HRA3.out HRB.out (by rw [HSM.out.2]; exact SameR.refl _)).mono ?_; rintro e W4 ⟨rfl, hb⟩; have HRQ4 := Lib.hid (row_keep' HRQ3.out hb); have HRX4 := Lib.hid (row_keep' HRX3.out hb); have HB4 := Lib.hid (HB3.out.trans (hb.mono HB3.out.size)); clear hb))
    go_step
    go_step
    go_step
    go_step
    exact folds_end HX HC HOV HP HRX4 HRQ4 HB4 HG

end Go.Proofs.YtonjgedhmmnolaaGreatDoor
end
