import Derived.Test.YtonjgedhmmnolaaGreatDoorZ14

section
namespace Go.Proofs.YtonjgedhmmnolaaGreatDoor
open Go.RowKit
set_option maxHeartbeats 1000000
set_option maxRecDepth 100000

/-- The cells of an input's box. -/
theorem in_cells {W : World} {g : Nat} {a0 a1 a2 a3 a4 a5 a6 a7 a8 a9 a10 a11 a12 a13 a14 a15 a16 : Value} (h : W.heap[g]? = some (.cells #[a0, a1, a2, a3, a4, a5, a6, a7, a8, a9, a10, a11, a12, a13, a14, a15, a16] 37 (0, 0))) :
    W.cell? ⟨g, 0, none⟩ = some a0 ∧ W.cell? ⟨g, 1, none⟩ = some a1 ∧ W.cell? ⟨g, 2, none⟩ = some a2 ∧ W.cell? ⟨g, 3, none⟩ = some a3 ∧ W.cell? ⟨g, 4, none⟩ = some a4 ∧ W.cell? ⟨g, 5, none⟩ = some a5 ∧ W.cell? ⟨g, 6, none⟩ = some a6 ∧ W.cell? ⟨g, 7, none⟩ = some a7 ∧ W.cell? ⟨g, 8, none⟩ = some a8 ∧ W.cell? ⟨g, 9, none⟩ = some a9 ∧ W.cell? ⟨g, 10, none⟩ = some a10 ∧ W.cell? ⟨g, 11, none⟩ = some a11 ∧ W.cell? ⟨g, 12, none⟩ = some a12 ∧ W.cell? ⟨g, 13, none⟩ = some a13 ∧ W.cell? ⟨g, 14, none⟩ = some a14 ∧ W.cell? ⟨g, 15, none⟩ = some a15 ∧ W.cell? ⟨g, 16, none⟩ = some a16 ∧ g < W.heap.size :=
  ⟨cell_of_row _ _ 0 _ _ _ h, cell_of_row _ _ 1 _ _ _ h, cell_of_row _ _ 2 _ _ _ h, cell_of_row _ _ 3 _ _ _ h, cell_of_row _ _ 4 _ _ _ h, cell_of_row _ _ 5 _ _ _ h, cell_of_row _ _ 6 _ _ _ h, cell_of_row _ _ 7 _ _ _ h, cell_of_row _ _ 8 _ _ _ h, cell_of_row _ _ 9 _ _ _ h, cell_of_row _ _ 10 _ _ _ h, cell_of_row _ _ 11 _ _ _ h, cell_of_row _ _ 12 _ _ _ h, cell_of_row _ _ 13 _ _ _ h, cell_of_row _ _ 14 _ _ _ h, cell_of_row _ _ 15 _ _ _ h, cell_of_row _ _ 16 _ _ _ h, (Array.getElem?_eq_some_iff.1 h).1⟩
/-- The cells of a question's box. -/
theorem q_cells {W : World} {g : Nat} {a0 a1 a2 a3 a4 a5 a6 a7 a8 : Value} (h : W.heap[g]? = some (.cells #[a0, a1, a2, a3, a4, a5, a6, a7, a8] 33 (0, 0))) :
    W.cell? ⟨g, 0, none⟩ = some a0 ∧ W.cell? ⟨g, 1, none⟩ = some a1 ∧ W.cell? ⟨g, 2, none⟩ = some a2 ∧ W.cell? ⟨g, 3, none⟩ = some a3 ∧ W.cell? ⟨g, 4, none⟩ = some a4 ∧ W.cell? ⟨g, 5, none⟩ = some a5 ∧ W.cell? ⟨g, 6, none⟩ = some a6 ∧ W.cell? ⟨g, 7, none⟩ = some a7 ∧ W.cell? ⟨g, 8, none⟩ = some a8 ∧ g < W.heap.size :=
  ⟨cell_of_row _ _ 0 _ _ _ h, cell_of_row _ _ 1 _ _ _ h, cell_of_row _ _ 2 _ _ _ h, cell_of_row _ _ 3 _ _ _ h, cell_of_row _ _ 4 _ _ _ h, cell_of_row _ _ 5 _ _ _ h, cell_of_row _ _ 6 _ _ _ h, cell_of_row _ _ 7 _ _ _ h, cell_of_row _ _ 8 _ _ _ h, (Array.getElem?_eq_some_iff.1 h).1⟩
/-- What slices of one row of one number read as. -/
theorem one_int {W : World} {RO : List VI} {A : Option Addr} {c : Nat} {n : Int} (hR : RdR W A c RO) (hd : rowsD RO = [[(intV n).data]]) :
    RO.length = 1 ∧ ∃ ab ao xb xo xc, A = some ⟨ab, ao, none⟩ ∧ W.cell? ⟨ab, ao, none⟩ = some (.slice (some ⟨xb, xo, none⟩) 1 xc) ∧ W.cell? ⟨xb, xo, none⟩ = some (.int .u8 3) ∧ W.cell? ⟨xb, xo + 2, none⟩ = some (.int .i64 n) := by
  obtain ⟨x, rfl⟩ : ∃ x, RO = [x] := by
    rcases RO with _ | ⟨x, _ | ⟨y, l⟩⟩
    · simp [rowsD] at hd
    · exact ⟨x, rfl⟩
    · simp [rowsD] at hd
  refine ⟨rfl, ?_⟩
  obtain ⟨ab, ao, rfl, _⟩ := hR.rd.2 (by simp)
  have r0 := row_at hR.rd (k := 0) (by simp)
  have hx := hR.hx x (by simp)
  have hl : VI.dataL x.l = [(intV n).data] := by simpa [rowsD] using hd
  rcases x with ⟨_, _, _, _, _, xA, xc, xl⟩
  simp only [VI.l] at hl
  obtain ⟨y, rfl⟩ : ∃ y, xl = [y] := by
    rcases xl with _ | ⟨y, _ | ⟨z, l⟩⟩
    · simp [VI.dataL] at hl
    · exact ⟨y, rfl⟩
    · simp [VI.dataL] at hl
  have hy : y.data = (intV n).data := by simpa [VI.dataL] using hl
  have hI := hx.list
  simp only [VI.A, VI.c, VI.l] at hI r0
  obtain ⟨xb, xo, rfl, _⟩ := hI.rd.2 (by simp)
  obtain ⟨p0, p1, p2, p3, p4, p5⟩ := item_at hI.rd (k := 0) (by simp)
  have h4 : y.k = 3 := by rw [← data_k, hy, data_k]; rfl
  have hn : y.n = n := by rw [← data_n, hy, data_n]; rfl
  simp only [List.getElem_cons_zero, Nat.zero_mul, Nat.add_zero, List.length_singleton] at p0 p2 r0
  exact ⟨ab, ao, xb, xo, xc, rfl, r0, by rw [← h4]; exact p0, by rw [← hn]; exact p2⟩
theorem RdQ.bare {w : World} {q : QryV} (h : RdQ w q) {fo : Int} (hf : 0 ≤ fo ∧ fo ≤ 255) {ov : ByteArray} (ho : ov.size ≤ 140737488355328) : RdQ w (q.bare fo ov) :=
  ⟨h.fr, h.tt, h.wh, h.wc, h.wb, h.wx, .none_, Nat.le_refl _, by show 0 * 16 ≤ 140737488355328; decide, (by intro x hx; simp [QryV.bare] at hx), h.nt, ho, h.hl, hf⟩
theorem wcells_take (l : List CondD) (k : Nat) (hk : k ≤ l.length) : (wcells l).take (k * 8) = wcells (l.take k) := by
  have h1 : wcells l = wcells (l.take k) ++ wcells (l.drop k) := by
    unfold wcells; rw [← List.flatMap_append, List.take_append_drop]
  have h2 : (wcells (l.take k)).length = k * 8 := by
    have : ∀ m : List CondD, (wcells m).length = m.length * 8 := by
      intro m
      induction m with
      | nil => rfl
      | cons x m ih => simp only [wcells, List.flatMap_cons, List.length_append, List.length_cons] at ih ⊢; rw [ih]; simp [CondD.cells, VI.cells]; omega
    rw [this, List.length_take, Nat.min_eq_left hk]
  rw [h1, List.take_left' h2]
theorem RdQ.less {w : World} {q : QryV} (h : RdQ w q) : RdQ w q.less := by
  refine ⟨h.fr, h.tt, ?_, ?_, ?_, fun x hx => h.wx x (List.mem_of_mem_take hx), h.cl, h.cc, h.cb, h.cx, h.nt, h.no, h.hl, h.hf⟩
  · have := h.wh.take (k := q.wh.length - 1) (by omega)
    rw [wcells_take _ _ (by omega)] at this
    show Rd w 8 q.AW (q.wh.take (q.wh.length - 1)).length (wcells (q.wh.take (q.wh.length - 1)))
    rw [List.length_take, Nat.min_eq_left (by omega)]
    exact this
  · show (q.wh.take (q.wh.length - 1)).length ≤ q.cW
    rw [List.length_take]; have := h.wc; omega
  · show (q.wh.take (q.wh.length - 1)).length * 88 ≤ 140737488355328
    rw [List.length_take]; have := h.wb; omega
/-- What is left of a sequence behind its first statements. -/
def codeAfter : Nat → Code → Code
  | 0, c => c
  | k + 1, .seq _ b => codeAfter k b
  | _ + 1, c => c
theorem one17 (pg wd keys ql qf : Int) (tn qt qo pf : ByteArray) (qd : Bool) (A AF AT AW AC AP AR : Option Addr) (nA cA nF cF nT cT nW cW nC cC nP cP nR cR : Nat) :
    (#[Value.int .i64 pg, .int .i64 wd, .string tn, .slice A nA cA, .int .i64 keys, .string qt, .slice AF nF cF, .slice AT nT cT, .slice AW nW cW, .slice AC nC cC, .bool qd, .int .i64 ql, .int .u8 qf, .string qo, .slice AP nP cP, .slice AR nR cR, .string pf]).all (·.oneCell') = true := by
  rw [Array.all_eq_true_iff_forall_mem]
  intro v hv
  simp only [List.mem_toArray, List.mem_cons, List.not_mem_nil, or_false] at hv
  rcases hv with rfl | rfl | rfl | rfl | rfl | rfl | rfl | rfl | rfl | rfl | rfl | rfl | rfl | rfl | rfl | rfl | rfl <;> rfl
set_option maxHeartbeats 3000000 in
theorem turns_tail {pg wd : Int} {tn : ByteArray} {cols : List ColD} {keys : Int} {A : Option Addr} {c : Nat} {qt : ByteArray} {fr tt : List VI} {wh : List CondD} {qc : List ByteArray} {qd : Bool} {ql qf : Int} {qo : ByteArray} {AF : Option Addr} {cF : Nat} {AT : Option Addr} {cT : Nat} {AW : Option Addr} {cW : Nat} {AC : Option Addr} {cC : Nat}
    {P : List (ByteArray × ByteArray)} {AP : Option Addr} {cP : Nat} {AR : Option Addr} {nR cR : Nat} {pf : ByteArray} {w w8 : World} {RL : List VI} {AL : Option Addr} {cL : Nat} {u0 u2 u4 u5 u6 u7 u8 u9 u10 u11 u12 u13 u14 u15 u16 u17 u18 u19 u20 u21 u22 u23 u24 u25 u26 u27 u28 u29 u30 u31 u32 u33 u34 u35 u36 u37 u38 u39 u40 u41 u42 u43 u44 u45 u46 u47 u48 u49 u50 u51 u52 u53 u54 u55 u56 u57 u58 u59 u60 u61 u62 u63 u64 u65 u66 u67 u68 u69 u70 u71 u72 u73 u74 u75 u76 u77 u78 u79 u80 u81 u82 u83 u84 u85 u86 u87 u88 u89 u90 u91 u92 u93 u94 u95 u96 u97 u98 u99 u100 u101 u102 u103 u104 u105 u106 u107 u108 u109 u110 u111 u112 u113 u114 u115 u116 u117 u118 u119 u120 u121 u122 u123 u124 u125 u126 u127 u128 u129 u130 u131 u132 u133 u134 u135 u136 u137 u138 u139 u140 u141 u142 : Value}
    (HX : Hid (RdX w ⟨pg, wd, ⟨tn, cols, keys⟩, A, c, ⟨qt, fr, tt, wh, qc, qd, ql, qf, qo, AF, cF, AT, cT, AW, cW, AC, cC⟩, P, AP, cP, AR, nR, cR, pf⟩)) (HC : Hid (∃ m, w.cell? ⟨1, 0, none⟩ = some (.int .i64 m))) (hwl : wh.length ≤ 1599289640402) (HOL0 : Hid (PickOk pg wd ⟨tn, cols, keys⟩ (QryV.plain ⟨qt, fr, tt, wh, qc, qd, ql, qf, qo, AF, cF, AT, cT, AW, cW, AC, cC⟩) P (rowsD RL) 0))
    (HR8 : Hid (w8.heap[w.heap.size]? = some (.cells #[.int .i64 pg, .int .i64 wd, .string tn, .slice A cols.length c, .int .i64 keys, .string qt, .slice AF fr.length cF, .slice AT tt.length cT, .slice AW wh.length cW, .slice AC qc.length cC, .bool qd, .int .i64 ql, .int .u8 qf, .string qo, .slice AP P.length cP, .slice AR nR cR, .string pf] 37 (0, 0)))) (HB8 : Hid (Below w.heap.size w w8)) :
    (codeAfter 14 (Tryz.f5.body.getD .skip)).wp Tryz.prog (bodyPost Tryz.prog Tryz.f5 (fun e w' => e = .returned (.bool true) ∧ Below w.heap.size w w')) ⟨#[u0, .pointer (some ⟨w.heap.size, 0, none⟩), u2, .slice AL RL.length cL, u4, u5, u6, u7, u8, u9, u10, u11, u12, u13, u14, u15, u16, u17, u18, u19, u20, u21, u22, u23, u24, u25, u26, u27, u28, u29, u30, u31, u32, u33, u34, u35, u36, u37, u38, u39, u40, u41, u42, u43, u44, u45, u46, u47, u48, u49, u50, u51, u52, u53, u54, u55, u56, u57, u58, u59, u60, u61, u62, u63, u64, u65, u66, u67, u68, u69, u70, u71, u72, u73, u74, u75, u76, u77, u78, u79, u80, u81, u82, u83, u84, u85, u86, u87, u88, u89, u90, u91, u92, u93, u94, u95, u96, u97, u98, u99, u100, u101, u102, u103, u104, u105, u106, u107, u108, u109, u110, u111, u112, u113, u114, u115, u116, u117, u118, u119, u120, u121, u122, u123, u124, u125, u126, u127, u128, u129, u130, u131, u132, u133, u134, u135, u136, u137, u138, u139, u140, u141, u142], []⟩ w8 := by
  simp only [Tryz.f5, Option.getD_some, codeAfter]
  go_upto_region 19 with (first | (refine wpList_load_row rfl 37 (.tmp 1) rfl w.heap.size rfl 37 #[.int .i64 pg, .int .i64 wd, .string tn, .slice A cols.length c, .int .i64 keys, .string qt, .slice AF fr.length cF, .slice AT tt.length cT, .slice AW wh.length cW, .slice AC qc.length cC, .bool qd, .int .i64 ql, .int .u8 qf, .string qo, .slice AP P.length cP, .slice AR nR cR, .string pf] (0, 0) _ HR8.out Tryz.underlying37 rfl (by kernel_rfl) ?_) | (refine wpList_store_row rfl 37 (.tmp 10) (.tmp 110) rfl w8.heap.size #[.int .i64 pg, .int .i64 wd, .string tn, .slice A cols.length c, .int .i64 keys, .string qt, .slice AF fr.length cF, .slice AT tt.length cT, .slice AW wh.length cW, .slice AC qc.length cC, .bool qd, .int .i64 ql, .int .u8 qf, .string qo, .slice AP P.length cP, .slice AR nR cR, .string pf] rfl rfl 37 #[.int .i64 0, .int .i64 0, .string ⟨#[]⟩, .slice none 0 0, .int .i64 0, .string ⟨#[]⟩, .slice none 0 0, .slice none 0 0, .slice none 0 0, .slice none 0 0, .bool false, .int .i64 0, .int .u8 0, .string ⟨#[]⟩, .slice none 0 0, .slice none 0 0, .string ⟨#[]⟩] (heap_alloc_new w8 _) (by kernel_rfl) rfl (one17 _ _ _ _ _ _ _ _ _ _ _ _ _ _ _ _ _ _ _ _ _ _ _ _ _ _ _ _ _ _) ?_; rw [World.setRow_alloc_new]))
  obtain ⟨x0, x1, x2, x3, x4, x5, x6, x7, x8, x9, x10, x11, x12, x13, x14, x15, x16, z0⟩ := in_cells HR8.out
  by_cases hw0 : 0 < wh.length
  ·
    have HQ8 := Lib.hid ((HX.out.q.below HB8.out).wh)
    obtain ⟨wb, wo, rfl⟩ : ∃ wb wo, AW = some ⟨wb, wo, none⟩ := by obtain ⟨b, o, e, _⟩ := HQ8.out.2 (show 0 < wh.length by omega); exact ⟨b, o, e⟩
    obtain ⟨WT, hWT⟩ : ∃ WT, wh.take (wh.length - 1) = WT := ⟨_, rfl⟩
    have HLS := Lib.hid (show QryV.less ⟨qt, fr, tt, wh, qc, qd, ql, qf, qo, AF, cF, AT, cT, (some ⟨wb, wo, none⟩), cW, AC, cC⟩ = ⟨qt, fr, tt, WT, qc, qd, ql, qf, qo, AF, cF, AT, cT, (some ⟨wb, wo, none⟩), cW, AC, cC⟩ by rw [← hWT]; rfl)
    have hwt : WT.length + 1 = wh.length := by rw [← hWT, List.length_take]; omega
    have hsl := slice_to (P := Tryz.prog) 29 Tryz.underlying29 ⟨_, fun W => Tryz.sizeOf69 W⟩ wb wo wh.length cW WT.length ((wh.length : Int) - 1) (by omega) (by have := HX.out.q.wc; simp only at this; omega)
    have HWT := Lib.hid hwt
    clear hWT hwt
    go_upto_region 21 with fail
    go_wp2_with (first
      | (refine wpList_load_row rfl 37 (.tmp 10) rfl w8.heap.size rfl 37 #[.int .i64 pg, .int .i64 wd, .string tn, .slice A cols.length c, .int .i64 keys, .string qt, .slice AF fr.length cF, .slice AT tt.length cT, .slice (some ⟨wb, wo, none⟩) WT.length cW, .slice AC qc.length cC, .bool qd, .int .i64 ql, .int .u8 qf, .string qo, .slice AP P.length cP, .slice AR nR cR, .string pf] (0, 0) _ (heap_alloc_new w8 _) Tryz.underlying37 rfl (by kernel_rfl) ?_)
      | (go_at_call 14; go_must (refine (all_c ⟨pg, wd, ⟨tn, cols, keys⟩, A, c, ⟨qt, fr, tt, WT, qc, qd, ql, qf, qo, AF, cF, AT, cT, (some ⟨wb, wo, none⟩), cW, AC, cC⟩, P, AP, cP, AR, nR, cR, pf⟩ _ (show RdX _ ⟨pg, wd, ⟨tn, cols, keys⟩, A, c, ⟨qt, fr, tt, WT, qc, qd, ql, qf, qo, AF, cF, AT, cT, (some ⟨wb, wo, none⟩), cW, AC, cC⟩, P, AP, cP, AR, nR, cR, pf⟩ from ⟨HX.out.t.below (HB8.out.alloc HB8.out.size _), by rw [← HLS.out]; exact HX.out.q.less.below (HB8.out.alloc HB8.out.size _), HX.out.p.below (HB8.out.alloc HB8.out.size _)⟩) (cell_keep HC.out (Nat.le_refl _) (HB8.out.alloc HB8.out.size _))).mono ?_; rintro e w9 ⟨RK, AK, cK, nK, rfl, hok, hrd, hb⟩; obtain ⟨hn, hd⟩ := turns_less HOL0.out (by rw [HLS.out]; exact hok); subst hn; have hge : RL.length ≤ RK.length := (by rw [rowsD_len, rowsD_len] at hd; exact hd); have HB9 := Lib.hid ((HB8.out.alloc HB8.out.size _).trans (hb.mono (HB8.out.alloc HB8.out.size _).size)); clear hok hrd hb hd x0 x1 x2 x3 x4 x5 x6 x7 x8 x9 x10 x11 x12 x13 x14 x15 x16 z0))
      | (go_at_call 8; go_must (refine (awake_c w9 (cell_keep HC.out (Nat.le_refl _) HB9.out)).mono ?_; rintro e w10 ⟨rfl, hb⟩; have HB10 := Lib.hid (HB9.out.trans (hb.mono HB9.out.size)); clear hb)))
    go_ret
    exact ⟨rfl, HB10.out⟩
  ·
    go_upto_region 21 with fail
    go_wp2_with (first
      | (refine wpList_load_row rfl 37 (.tmp 10) rfl w8.heap.size rfl 37 #[.int .i64 pg, .int .i64 wd, .string tn, .slice A cols.length c, .int .i64 keys, .string qt, .slice AF fr.length cF, .slice AT tt.length cT, .slice AW wh.length cW, .slice AC qc.length cC, .bool qd, .int .i64 ql, .int .u8 qf, .string qo, .slice AP P.length cP, .slice AR nR cR, .string pf] (0, 0) _ (heap_alloc_new w8 _) Tryz.underlying37 rfl (by kernel_rfl) ?_)
      | (go_at_call 14; go_must (refine (all_c ⟨pg, wd, ⟨tn, cols, keys⟩, A, c, ⟨qt, fr, tt, wh, qc, qd, ql, qf, qo, AF, cF, AT, cT, AW, cW, AC, cC⟩, P, AP, cP, AR, nR, cR, pf⟩ _ (HX.out.below (HB8.out.alloc HB8.out.size _)) (cell_keep HC.out (Nat.le_refl _) (HB8.out.alloc HB8.out.size _))).mono ?_; rintro e w9 ⟨RK, AK, cK, nK, rfl, hok, hrd, hb⟩; obtain ⟨hn, hd⟩ := turns_again HOL0.out hok; subst hn; have hge : RL.length ≤ RK.length := (by have := congrArg List.length hd; rw [rowsD_len, rowsD_len] at this; omega); have HB9 := Lib.hid ((HB8.out.alloc HB8.out.size _).trans (hb.mono (HB8.out.alloc HB8.out.size _).size)); clear hok hrd hb hd x0 x1 x2 x3 x4 x5 x6 x7 x8 x9 x10 x11 x12 x13 x14 x15 x16 z0))
      | (go_at_call 8; go_must (refine (awake_c w9 (cell_keep HC.out (Nat.le_refl _) HB9.out)).mono ?_; rintro e w10 ⟨rfl, hb⟩; have HB10 := Lib.hid (HB9.out.trans (hb.mono HB9.out.size)); clear hb)))
    go_ret
    exact ⟨rfl, HB10.out⟩

end Go.Proofs.YtonjgedhmmnolaaGreatDoor
end
