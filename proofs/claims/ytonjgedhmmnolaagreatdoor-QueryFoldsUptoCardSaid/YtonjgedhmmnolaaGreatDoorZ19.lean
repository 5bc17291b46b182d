import Derived.Test.YtonjgedhmmnolaaGreatDoorZ18

section
namespace Go.Proofs.YtonjgedhmmnolaaGreatDoor
open Go.RowKit
set_option maxHeartbeats 1000000
set_option maxRecDepth 100000

set_option maxHeartbeats 3000000 in
theorem folds_whole {pg wd : Int} {tn : ByteArray} {cols : List ColD} {keys : Int} {A : Option Addr} {c : Nat} {qt : ByteArray} {fr tt : List VI} {wh : List CondD} {qc : List ByteArray} {qd : Bool} {ql qf : Int} {qo : ByteArray} {AF : Option Addr} {cF : Nat} {AT : Option Addr} {cT : Nat} {AW : Option Addr} {cW : Nat} {AC : Option Addr} {cC : Nat} {P : List (ByteArray × ByteArray)} {AP : Option Addr} {cP : Nat} {AR : Option Addr} {nR cR : Nat} {pf ov : ByteArray} {w : World} {u0 u3 u4 u7 u8 u9 u10 u11 u12 u13 u14 u15 u16 u17 u18 u19 u20 u21 u22 u23 u24 u25 u26 u27 u28 u29 u30 u31 u32 u33 u34 u35 u36 u37 u38 u39 u40 u41 u42 u43 u44 u45 u46 u47 u48 u49 u50 u51 u52 u53 u54 u55 u56 u57 u58 u59 u60 u61 u62 u63 u64 u65 u66 u67 u68 u69 u70 u71 u72 u73 u74 u75 u76 u77 u78 u79 u80 u81 u82 u83 u84 u85 u86 u87 u88 u89 u90 u91 u92 u93 u94 u95 u96 u97 u98 u99 u100 u101 u102 u103 u104 u105 u106 u107 u108 u109 u110 u111 u112 u113 u114 u115 u116 u117 u118 u119 u120 u121 u122 u123 u124 u125 u126 u127 u128 u129 u130 u131 u132 u133 u134 u135 u136 u137 u138 u139 u140 u141 u142 u143 u144 u145 u146 u147 u148 u149 u150 u151 u152 u153 u154 u155 u156 u157 u158 u159 u160 u161 u162 u163 u164 u165 u166 u167 u168 u169 u170 u171 u172 u173 u174 u175 u176 : Value} {W : World} {g : Nat} {AV : Option Addr} {cV : Nat}
    (HX : Hid (RdX w ⟨pg, wd, ⟨tn, cols, keys⟩, A, c, ⟨qt, fr, tt, wh, qc, qd, ql, qf, qo, AF, cF, AT, cT, AW, cW, AC, cC⟩, P, AP, cP, AR, nR, cR, pf⟩)) (HC : Hid (∃ m, w.cell? ⟨1, 0, none⟩ = some (.int .i64 m))) (HOV : Hid (ov.size ≤ 140737488355328)) (HP : Hid (P.length * 64 ≤ 140737488355328)) (HRX : Hid (W.heap[w.heap.size]? = some (.cells #[.int .i64 pg, .int .i64 wd, .string tn, .slice A cols.length c, .int .i64 keys, .string qt, .slice AF fr.length cF, .slice AT tt.length cT, .slice AW wh.length cW, .slice AC qc.length cC, .bool qd, .int .i64 ql, .int .u8 qf, .string qo, .slice AP P.length cP, .slice AR nR cR, .string pf] 37 (0, 0)))) (HRQ : Hid (W.heap[g]? = some (.cells #[.string qt, .slice AF fr.length cF, .slice AT tt.length cT, .slice AW wh.length cW, .slice none 0 0, .bool qd, .int .i64 0, .int .u8 4, .string ov] 33 (0, 0)))) (HB : Hid (Below w.heap.size w W)) (HG : Hid (w.heap.size < g)) (HT : Hid (RdP W AV cV P.reverse)) :
    (codeAfter 9 (Tryz.f6.body.getD .skip)).wp Tryz.prog (bodyPost Tryz.prog Tryz.f6 (fun e w' => e = .returned (.bool true) ∧ Below w.heap.size w w')) ⟨#[u0, .string ov, .pointer (some ⟨w.heap.size, 0, none⟩), u3, u4, .pointer (some ⟨g, 0, none⟩), .slice AV P.reverse.length cV, u7, u8, u9, u10, u11, u12, u13, u14, u15, u16, u17, u18, u19, u20, u21, u22, u23, u24, u25, u26, u27, u28, u29, u30, u31, u32, u33, u34, u35, u36, u37, u38, u39, u40, u41, u42, u43, u44, u45, u46, u47, u48, u49, u50, u51, u52, u53, u54, u55, u56, u57, u58, u59, u60, u61, u62, u63, u64, u65, u66, u67, u68, u69, u70, u71, u72, u73, u74, u75, u76, u77, u78, u79, u80, u81, u82, u83, u84, u85, u86, u87, u88, u89, u90, u91, u92, u93, u94, u95, u96, u97, u98, u99, u100, u101, u102, u103, u104, u105, u106, u107, u108, u109, u110, u111, u112, u113, u114, u115, u116, u117, u118, u119, u120, u121, u122, u123, u124, u125, u126, u127, u128, u129, u130, u131, u132, u133, u134, u135, u136, u137, u138, u139, u140, u141, u142, u143, u144, u145, u146, u147, u148, u149, u150, u151, u152, u153, u154, u155, u156, u157, u158, u159, u160, u161, u162, u163, u164, u165, u166, u167, u168, u169, u170, u171, u172, u173, u174, u175, u176], []⟩ W := by
  simp only [Tryz.f6, Option.getD_some, codeAfter]
  have HCL := Lib.hid (show RdT W A c ⟨tn, cols, keys⟩ from HX.out.t.below HB.out)
  have hclb : cols.length ≤ 5864062014805 := by have := HCL.out.hb; simp only at this; omega
  go_wp2
  go_loopw [9, 8] (fun i b wr => ∃ (k : Nat) (bb : Bool), k ≤ cols.length ∧ i = .int .i64 k ∧ b = .bool bb ∧ Hid (bb = true → ∃ c ∈ cols, c.name.data.toList = ov.data.toList ∧ c.kind = 3) ∧ Hid (wr = W)) (fun i _ _ => cols.length - (intOf i).toNat)
  case atStart => exact ⟨0, false, Nat.zero_le _, rfl, rfl, Lib.hid (fun h => by cases h), Lib.hid rfl⟩
  case round =>
    obtain ⟨k, bb, hk, rfl, rfl, hwb, hww⟩ := hrel
    obtain rfl := hww.out
    obtain ⟨x0, x1, x2, x3, x4, x5, x6, x7, x8, x9, x10, x11, x12, x13, x14, x15, x16, z0⟩ := in_cells HRX.out
    by_cases hlt : k < cols.length
    · obtain ⟨tb, te, rfl⟩ : ∃ tb te, A = some ⟨tb, te, none⟩ := by obtain ⟨b, o, e, _⟩ := HCL.out.rd.2 (show 0 < cols.length by omega); exact ⟨b, o, e⟩
      obtain ⟨c0, c1, c2⟩ := col_at HCL.out.rd hlt
      have HM := Lib.hid (List.getElem_mem hlt)
      simp only at c0 c1 c2
      obtain ⟨x, hx⟩ : ∃ x, cols[k] = x := ⟨_, rfl⟩
      rw [hx] at c0 c1 c2 HM
      clear hx
      cases bb with
      | true =>
        go_wp2
        exact ⟨⟨k + 1, true, by omega, by go_num, rfl, hwb, Lib.hid trivial⟩, by simp [intOf]; omega⟩
      | false =>
        cases hq : (x.name.toList == ov.toList) with
        | false =>
          go_wp2
          exact ⟨⟨k + 1, false, by omega, by go_num, rfl, Lib.hid (fun h => by cases h), Lib.hid trivial⟩, by simp [intOf]; omega⟩
        | true =>
          have HQE := Lib.hid hq
          cases h3 : (x.kind == 3) with
          | false =>
            go_wp2
            exact ⟨⟨k + 1, false, by omega, by go_num, rfl, Lib.hid (fun h => by cases h), Lib.hid trivial⟩, by simp [intOf]; omega⟩
          | true =>
            have H3 := Lib.hid h3
            go_wp2
            exact ⟨⟨k + 1, true, by omega, by go_num, rfl, Lib.hid (fun _ => ⟨x, HM.out, by have := HQE.out; rw [eqB] at this; simpa using this, by have := H3.out; simpa using this⟩), Lib.hid trivial⟩, by simp [intOf]; omega⟩
    ·
      go_upto_if 48 with fail
      repeat (first | exact folds_mid HX HC HOV HP HRX HRQ HB HG HT hwb | go_step)

end Go.Proofs.YtonjgedhmmnolaaGreatDoor
end

section
namespace Go.Proofs.YtonjgedhmmnolaaGreatDoor
open Go.RowKit
set_option maxHeartbeats 1000000
set_option maxRecDepth 100000

theorem infoP : (Tryz.prog.info? 56).map (fun i => (i.zero, i.size, i.bytes)) = some (some (.agg #[.string ⟨#[]⟩, .string ⟨#[]⟩]), 2, 32) := by kernel_rfl
theorem pcells_one (l : List (ByteArray × ByteArray)) : ∀ u ∈ pcells l, u.oneCell' = true := by
  intro u hu
  simp only [pcells, List.mem_flatMap, pcell, List.mem_cons, List.not_mem_nil, or_false] at hu
  obtain ⟨x, _, h⟩ := hu
  rcases h with rfl | rfl <;> rfl
theorem pcells_app (a b : List (ByteArray × ByteArray)) : pcells (a ++ b) = pcells a ++ pcells b := List.flatMap_append
theorem wpList_pair {ops : Array Oper} {rest : List Oper} {o : Oper} {a : Act} {w : World} {Q : Exit → Act → World → Prop} {B : Nat} {v : Value} {T : List (ByteArray × ByteArray)} {kb vb : ByteArray} (hgd : o.guard = none) (s y : Operand)
    (ho : o.op = .call { callee := .builtin .append, args := #[s, y], argTypes := #[34, 34] }) (hO : w.ownsRow B 56 2 v T.length (pcells T)) (hs : a.eval s = v)
    {g c : Nat} (hy : a.eval y = .slice (some ⟨g, 0, none⟩) 1 c) (hg : w.heap[g]? = some (.cells #[.string kb, .string vb] 56 (0, 0)))
    (hl : (T.length + 1) * 32 ≤ 140737488355328) (hB : B ≤ w.heap.size)
    (h : ∀ v' w', w'.ownsRow B 56 2 v' (T ++ [(kb, vb)]).length (pcells (T ++ [(kb, vb)])) → Kept (fun k => v.ownBlock = some k) w w' → wpList Tryz.prog ops Q rest (a.put o.dst v') w') : wpList Tryz.prog ops Q (o :: rest) a w :=
  wpList_plain hgd fun K hK => by
    obtain ⟨i0, hi, hz0, hz1, hz2⟩ := info_parts infoP
    refine wp_append_rd s y 34 ho B 56 Tryz.underlying34 hi hz0 hz1 hz2 rfl (by decide) hs hO (m := 1) (news := pcells [(kb, vb)]) hy ⟨rfl, fun _ => ⟨g, 0, rfl, fun j u hu => ?_⟩⟩ (pcells_one _) hl (by decide) hB ?_
    · rw [Nat.zero_add, cell_of_row _ _ j _ _ _ hg]
      exact (show (#[Value.string kb, Value.string vb])[j]? = (pcells [(kb, vb)])[j]? by simp [pcells, pcell]).trans hu
    · intro v' w' h2 h3 _
      exact hK _ _ (h v' w' (by rw [List.length_append, pcells_app]; exact h2) ((Kept.refl _ w).grown h3 (fun k hk _ => hk)))
theorem rev_take (P : List (ByteArray × ByteArray)) (j : Nat) (hj : j < P.length) {p : ByteArray × ByteArray} (hp : P[j] = p) : P.reverse.take (P.length - (j + 1)) ++ [p] = P.reverse.take (P.length - j) := by
  have h : P.length - (j + 1) < P.reverse.length := by rw [List.length_reverse]; omega
  rw [show P.length - j = P.length - (j + 1) + 1 by omega, List.take_succ_eq_append_getElem h, List.getElem_reverse]
  simp only [show P.length - 1 - (P.length - (j + 1)) = j by omega, hp]
set_option maxHeartbeats 3000000 in
theorem folds_law (x : InV) (ov : ByteArray) (w : World) (hX : RdX w x) (hov : ov.size ≤ 140737488355328) (hp : x.P.length * 64 ≤ 140737488355328) (hc : ∃ m, w.cell? ⟨1, 0, none⟩ = some (.int .i64 m)) : Calls Tryz.prog 6 #[x.val, .string ov] w fun e w' => e = .returned (.bool true) ∧ Below w.heap.size w w' := by
  have HX := Lib.hid hX
  have HC := Lib.hid hc
  have HOV := Lib.hid hov
  have HP := Lib.hid hp
  rcases x with ⟨pg, wd, ⟨tn, cols, keys⟩, A, c, ⟨qt, fr, tt, wh, qc, qd, ql, qf, qo, AF, cF, AT, cT, AW, cW, AC, cC⟩, P, AP, cP, AR, nR, cR, pf⟩
  rw [show InV.val ⟨pg, wd, ⟨tn, cols, keys⟩, A, c, ⟨qt, fr, tt, wh, qc, qd, ql, qf, qo, AF, cF, AT, cT, AW, cW, AC, cC⟩, P, AP, cP, AR, nR, cR, pf⟩ = .agg #[.int .i64 pg, .int .i64 wd, .string tn, .slice A cols.length c, .int .i64 keys, .string qt, .slice AF fr.length cF, .slice AT tt.length cT, .slice AW wh.length cW, .slice AC qc.length cC, .bool qd, .int .i64 ql, .int .u8 qf, .string qo, .slice AP P.length cP, .slice AR nR cR, .string pf] from rfl]
  simp only at HP
  have hpl : P.length ≤ 2199023255552 := by have := HP.out; omega
  have HR0 := Lib.hid (heap_alloc_new w (.cells #[.int .i64 pg, .int .i64 wd, .string tn, .slice A cols.length c, .int .i64 keys, .string qt, .slice AF fr.length cF, .slice AT tt.length cT, .slice AW wh.length cW, .slice AC qc.length cC, .bool qd, .int .i64 ql, .int .u8 qf, .string qo, .slice AP P.length cP, .slice AR nR cR, .string pf] 37))
  have HB0 := Lib.hid ((Below.refl w.heap.size w).alloc (Nat.le_refl _) (.cells #[.int .i64 pg, .int .i64 wd, .string tn, .slice A cols.length c, .int .i64 keys, .string qt, .slice AF fr.length cF, .slice AT tt.length cT, .slice AW wh.length cW, .slice AC qc.length cC, .bool qd, .int .i64 ql, .int .u8 qf, .string qo, .slice AP P.length cP, .slice AR nR cR, .string pf] 37))
  obtain ⟨W0, hW0⟩ : ∃ W0, w.alloc (.cells #[.int .i64 pg, .int .i64 wd, .string tn, .slice A cols.length c, .int .i64 keys, .string qt, .slice AF fr.length cF, .slice AT tt.length cT, .slice AW wh.length cW, .slice AC qc.length cC, .bool qd, .int .i64 ql, .int .u8 qf, .string qo, .slice AP P.length cP, .slice AR nR cR, .string pf] 37) = W0 := ⟨_, rfl⟩
  have HW0 := Lib.hid hW0
  rw [HW0.out] at HR0 HB0
  clear hX hc hW0 hov hp
  go_enter Tryz.func6, Tryz.ntmps6
  go_upto_if 18 with (go_at_call 9; go_must (rw [HW0.out]; refine (vast_c ⟨qt, fr, tt, wh, qc, qd, ql, qf, qo, AF, cF, AT, cT, AW, cW, AC, cC⟩ W0 (HX.out.q.below HB0.out)).mono ?_; rintro e w1 ⟨⟨b, rfl⟩, hb⟩; have HR1 := Lib.hid (row_keep' HR0.out hb); have HB1 := Lib.hid (HB0.out.trans (hb.mono HB0.out.size)); clear hb))
  obtain ⟨x0, x1, x2, x3, x4, x5, x6, x7, x8, x9, x10, x11, x12, x13, x14, x15, x16, z0⟩ := in_cells HR1.out
  cases b with
  | true =>
    go_wp2_with (go_at_call 8; go_must (refine (awake_c w1 (cell_keep HC.out (Nat.le_refl _) HB1.out)).mono ?_; rintro e w2 ⟨rfl, hb⟩; have HB2 := Lib.hid (HB1.out.trans (hb.mono HB1.out.size)); clear hb x0 x1 x2 x3 x4 x5 x6 x7 x8 x9 x10 x11 x12 x13 x14 x15 x16 z0))
    go_ret
    exact ⟨rfl, HB2.out⟩
  | false =>
    go_upto_region 9 with fail
    have HRQ := Lib.hid (heap_alloc_new w1 (.cells #[.string qt, .slice AF fr.length cF, .slice AT tt.length cT, .slice AW wh.length cW, .slice none 0 0, .bool qd, .int .i64 0, .int .u8 4, .string ov] 33))
    have HRX := Lib.hid (row_keep' HR1.out ((Below.refl w1.heap.size w1).alloc (Nat.le_refl _) (.cells #[.string qt, .slice AF fr.length cF, .slice AT tt.length cT, .slice AW wh.length cW, .slice none 0 0, .bool qd, .int .i64 0, .int .u8 4, .string ov] 33)))
    have HB := Lib.hid (HB1.out.alloc HB1.out.size (.cells #[.string qt, .slice AF fr.length cF, .slice AT tt.length cT, .slice AW wh.length cW, .slice none 0 0, .bool qd, .int .i64 0, .int .u8 4, .string ov] 33))
    have HG := Lib.hid (show w.heap.size < w1.heap.size from z0)
    obtain ⟨g, hg⟩ : ∃ g, w1.heap.size = g := ⟨_, rfl⟩
    have HGE := Lib.hid hg
    obtain ⟨W2, hW2⟩ : ∃ V, w1.alloc (.cells #[.string qt, .slice AF fr.length cF, .slice AT tt.length cT, .slice AW wh.length cW, .slice none 0 0, .bool qd, .int .i64 0, .int .u8 4, .string ov] 33) = V := ⟨_, rfl⟩
    have HW2 := Lib.hid hW2
    rw [HW2.out] at HRX HB
    rw [HW2.out, HGE.out] at HRQ
    rw [HGE.out] at HG
    rw [HW2.out, HGE.out]
    clear x0 x1 x2 x3 x4 x5 x6 x7 x8 x9 x10 x11 x12 x13 x14 x15 x16 z0 hg hW2
    obtain ⟨x0, x1, x2, x3, x4, x5, x6, x7, x8, x9, x10, x11, x12, x13, x14, x15, x16, z0⟩ := in_cells HRX.out
    go_wp2
    clear x0 x1 x2 x3 x4 x5 x6 x7 x8 x9 x10 x11 x12 x13 x14 x15 x16 z0
    go_loopw [7, 6] (fun i v wr => ∃ (k : Nat) (T : List (ByteArray × ByteArray)), k ≤ P.length ∧ i = .int .i64 ((k : Int) - 1) ∧ Hid (T = P.reverse.take (P.length - k)) ∧ Hid (wr.ownsRow W2.heap.size 56 2 v T.length (pcells T)) ∧ Hid (Below W2.heap.size W2 wr)) (fun i _ _ => (intOf i + 1).toNat)
    case atStart => exact ⟨P.length, [], Nat.le_refl _, rfl, Lib.hid (by simp), Lib.hid (World.ownsRow_nil _ _ _ _), Lib.hid (Below.refl _ _)⟩
    case round =>
      obtain ⟨k, T, hk, rfl, hT, hO, hBr⟩ := hrel
      have HRXr := Lib.hid (row_keep' HRX.out hBr.out)
      have HBr2 := Lib.hid (HB.out.trans (hBr.out.mono HB.out.size))
      obtain ⟨x0, x1, x2, x3, x4, x5, x6, x7, x8, x9, x10, x11, x12, x13, x14, x15, x16, z0⟩ := in_cells HRXr.out
      rcases k with _ | j
      · have hTP : T = P.reverse := by rw [hT.out, Nat.sub_zero, ← List.length_reverse, List.take_length]
        subst hTP
        obtain ⟨AV, cV, hv, hcv, hrv⟩ := own_rd hO.out
        subst hv
        have HTP := Lib.hid (show RdP _ AV cV P.reverse from ⟨hrv, hcv, by rw [List.length_reverse]; exact HX.out.p.hb, fun p hp => HX.out.p.hx p (List.mem_reverse.1 hp)⟩)
        have HRQr := Lib.hid (row_keep' HRQ.out hBr.out)
        clear hcv hrv
        go_upto_if 32 with fail
        clear x0 x1 x2 x3 x4 x5 x6 x7 x8 x9 x10 x11 x12 x13 x14 x15 x16 z0
        repeat (first | exact folds_whole HX HC HOV HP HRXr HRQr HBr2 HG HTP | go_step)
      · have hj1 : ((j + 1 : Nat) : Int) - 1 = (j : Int) := by omega
        rw [hj1]
        have hjl : j < P.length := by omega
        clear hj1
        have HPr := Lib.hid (HX.out.p.below HBr2.out)
        obtain ⟨pb, po, rfl⟩ : ∃ pb po, AP = some ⟨pb, po, none⟩ := by obtain ⟨b, o, e, _⟩ := HPr.out.rd.2 (show 0 < P.length by omega); exact ⟨b, o, e⟩
        obtain ⟨p0, p1⟩ := pair_at HPr.out.rd hjl
        have HRT := Lib.hid (fun p (hp : P[j] = p) => rev_take P j hjl hp)
        simp only at p0 p1
        obtain ⟨p, hp⟩ : ∃ p, P[j] = p := ⟨_, rfl⟩
        have HRP := Lib.hid (HRT.out p hp)
        rw [hp] at p0 p1
        clear hp HRT
        rcases p with ⟨kb, vb⟩
        simp only at p0 p1
        have HTL := Lib.hid (show T.length ≤ P.length by rw [hT.out, List.length_take, List.length_reverse]; omega)
        go_wp2_with (at_builtin; go_must (refine wpList_pair (B := W2.heap.size) (kb := kb) (vb := vb) (c := 1) rfl (.tmp 35) (.tmp 41) rfl (own_below hO.out ((Below.refl _ _).alloc (Nat.le_refl _) (.cells #[.string kb, .string vb] 56))) rfl rfl (heap_alloc_new wr _) (by have := HTL.out; omega) (Nat.le_trans hBr.out.size (by simp)) ?_; intro v2 w4 hO2 hK2; have HO2 := Lib.hid hO2; have HK2 := Lib.hid (hK2.belowOwn (own_below hO.out ((Below.refl _ _).alloc (Nat.le_refl _) (.cells #[.string kb, .string vb] 56))) (Nat.le_trans hBr.out.size (by simp))); clear hO2 hK2))
        exact ⟨⟨j, _, by omega, by go_num, Lib.hid (by rw [hT.out]; exact HRP.out), HO2, Lib.hid ((hBr.out.alloc hBr.out.size _).trans HK2.out)⟩, by simp [intOf]⟩

end Go.Proofs.YtonjgedhmmnolaaGreatDoor
end
