import Derived.Test.YtbndadjaofnnkaaGreatDoorZ13

section
namespace Go.Proofs.YtbndadjaofnnkaaGreatDoor
open Go.RowKit
set_option maxHeartbeats 1000000
set_option maxRecDepth 100000

theorem weight_c : ∀ (s : Nat) (l : List VI) (A : Option Addr) (c : Nat) (w : World), SizeOf.sizeOf l ≤ s → RdI w A c l → Calls Tryz.prog 8 #[.slice A l.length c] w fun e w' => (∃ n, e = .returned (.int .i64 n)) ∧ Below w.heap.size w w' := by
  intro s
  induction s with
  | zero => intro l A c w hs; exfalso; cases l <;> simp at hs
  | succ s ih =>
  intro l A c w hs hL
  have HIH := Lib.hid ih
  have HS := Lib.hid hs
  have HL := Lib.hid hL
  have hlb := hL.hb
  clear ih hs hL
  go_enter Tryz.func8, Tryz.ntmps8
  go_wp2
  go_loopw [4, 3] (fun i v wr => ∃ (k : Nat) (n : Int), k ≤ l.length ∧ i = .int .i64 k ∧ v = .int .i64 n ∧ Hid (Below w.heap.size w wr)) (fun i _ _ => l.length - (intOf i).toNat)
  case atStart => exact ⟨0, _, Nat.zero_le _, rfl, rfl, Lib.hid (Below.refl _ _)⟩
  case round =>
    obtain ⟨k, n, hk, rfl, rfl, hB⟩ := hrel
    by_cases hlt : k < l.length
    · by_cases hn : n < 100000
      · have HLr := Lib.hid (HL.out.below hB.out)
        obtain ⟨ab, ao, rfl⟩ : ∃ ab ao, A = some ⟨ab, ao, none⟩ := by obtain ⟨b, o, e, _⟩ := HLr.out.rd.2 (by omega); exact ⟨b, o, e⟩
        have HIT := Lib.hid (fun W (h : Below wr.heap.size wr W) => item_at (HLr.out.below h).rd hlt)
        have HX := Lib.hid (HLr.out.hx _ (List.getElem_mem hlt))
        have HSX := Lib.hid (show SizeOf.sizeOf l[k].l ≤ s by have h1 := sz_lt (List.getElem_mem hlt); have h2 := HS.out; have h3 := sz_list l[k]; omega)
        obtain ⟨y, hy⟩ : ∃ y, l[k] = y := ⟨_, rfl⟩
        simp only [hy] at HIT HX HSX
        clear hy
        rcases y with ⟨yk, yb, yn, yf, yt, yA, yc, yl⟩
        simp only [VI.k, VI.b, VI.n, VI.f, VI.t, VI.A, VI.c, VI.l] at HIT HSX
        have HYL := Lib.hid (show RdI wr yA yc yl from HX.out.list)
        go_wp2
        refine wp_region_sched (S := fun W => Below wr.heap.size wr W) [(0, true), (1, true), (2, true), (3, true), (4, true), (5, true), (6, true), (7, true), (8, true), (9, true), (10, true), (11, true), (12, true), (13, false), (14, true), (15, true)] (by kernel_rfl) (by kernel_rfl) (by kernel_rfl) (fun _ _ d _ _ h => by cases d <;> exact h) (Below.refl _ _).drew ?_
        repeat (apply sched_take; (exact rfl); rfl; (intro W hW; obtain ⟨p0, p1, p2, p3, p4, p5⟩ := HIT.out W hW; go_simp; (try with_reducible rfl)); simp only [Act.put, List.setIfInBounds_toArray, List.set_cons_zero, List.set_cons_succ])
        apply sched_run; (exact rfl); rfl; intro K hK; go_simp
        have hbd := (Below.refl wr.heap.size wr).drew
        refine (HIH.out yl yA yc _ HSX.out (HYL.out.below hbd)).mono ?_
        rintro e w1 ⟨⟨m, rfl⟩, hb⟩
        have HB1 := Lib.hid (hbd.trans (hb.mono (show wr.heap.size ≤ _ from hbd.size)))
        clear hbd hb
        refine hK.out _ _ HB1.out (fun _ => ?_)
        clear hK K
        try simp only [Act.put, List.setIfInBounds_toArray, List.set_cons_zero, List.set_cons_succ]
        repeat (apply sched_take; (exact rfl); rfl; (intro W hW; go_simp; (try with_reducible rfl)); simp only [Act.put, List.setIfInBounds_toArray, List.set_cons_zero, List.set_cons_succ])
        refine sched_done ?_
        go_wp2
        exact ⟨⟨k + 1, _, by omega, by go_num, rfl, Lib.hid (hB.out.trans (HB1.out.mono hB.out.size))⟩, by simp [intOf]; omega⟩
      · go_wp2
        go_ret
        exact ⟨⟨_, rfl⟩, hB.out⟩
    · go_wp2
      go_ret
      exact ⟨⟨_, rfl⟩, hB.out⟩
/-- The box of a question, in a later world. -/
theorem box_q {w W : World} {a0 a1 a2 a3 a4 a5 a6 a7 a8 : Value} (h : Below (w.heap.size + 1) (w.alloc (.cells #[a0, a1, a2, a3, a4, a5, a6, a7, a8] 27)) W) :
    (W.cell? ⟨w.heap.size, 0, none⟩ = some a0 ∧ W.cell? ⟨w.heap.size, 1, none⟩ = some a1 ∧ W.cell? ⟨w.heap.size, 2, none⟩ = some a2 ∧ W.cell? ⟨w.heap.size, 3, none⟩ = some a3 ∧ W.cell? ⟨w.heap.size, 4, none⟩ = some a4 ∧ W.cell? ⟨w.heap.size, 5, none⟩ = some a5 ∧ W.cell? ⟨w.heap.size, 6, none⟩ = some a6 ∧ W.cell? ⟨w.heap.size, 7, none⟩ = some a7 ∧ W.cell? ⟨w.heap.size, 8, none⟩ = some a8) ∧ w.heap.size < W.heap.size ∧ Below w.heap.size w W := by
  have h1 : W.heap[w.heap.size]? = some (.cells #[a0, a1, a2, a3, a4, a5, a6, a7, a8] 27 (0, 0)) := (h.block _ (by omega)).trans (heap_alloc_new w _)
  exact ⟨⟨cell_of_row _ _ 0 _ _ _ h1, cell_of_row _ _ 1 _ _ _ h1, cell_of_row _ _ 2 _ _ _ h1, cell_of_row _ _ 3 _ _ _ h1, cell_of_row _ _ 4 _ _ _ h1, cell_of_row _ _ 5 _ _ _ h1, cell_of_row _ _ 6 _ _ _ h1, cell_of_row _ _ 7 _ _ _ h1, cell_of_row _ _ 8 _ _ _ h1⟩, (Array.getElem?_eq_some_iff.1 h1).1, ((Below.refl _ _).alloc (Nat.le_refl _) _).trans (h.mono (by omega))⟩
/-- Some bool is returned. -/
def SomeB (e : Ending) : Prop := ∃ b, e = .returned (.bool b)
theorem vast_c (q : QryV) (w : World) (hQ : RdQ w q) : Calls Tryz.prog 4 #[q.val] w fun e w' => SomeB e ∧ Below w.heap.size w w' := by
  have HQ := Lib.hid hQ
  have hwb := hQ.wb
  rcases q with ⟨qt, fr, tt, wh, qc, qd, ql, qf, qo, AF, cF, AT, cT, AW, cW, AC, cC⟩
  simp only [QryV.val, QryV.cells] at hwb ⊢
  obtain ⟨W0, hW0⟩ : ∃ W0, w.alloc (.cells #[.string qt, .slice AF fr.length cF, .slice AT tt.length cT, .slice AW wh.length cW, .slice AC qc.length cC, .bool qd, .int .i64 ql, .int .u8 qf, .string qo] 27) = W0 := ⟨_, rfl⟩
  have HW0 := Lib.hid hW0
  have HBX := Lib.hid (fun W (h : Below (w.heap.size + 1) W0 W) => box_q (hW0 ▸ h))
  have HS0 := Lib.hid (show W0.heap.size = w.heap.size + 1 by rw [← hW0]; simp)
  clear hQ hW0
  go_enter Tryz.func4, Tryz.ntmps4
  go_upto_region 1 with fail
  rw [HW0.out]
  refine wp_region_sched (S := fun W => Below (w.heap.size + 1) W0 W) [(0, true), (1, true), (3, true), (4, true), (2, false), (5, false), (6, true), (7, true)] (by kernel_rfl) (by kernel_rfl) (by kernel_rfl) (fun _ _ d _ _ h => by cases d <;> exact h) (Below.refl _ _).drew ?_
  repeat (apply sched_take; (exact rfl); rfl; (intro W hW; obtain ⟨⟨a0, a1, a2, a3, a4, a5, a6, a7, a8⟩, q3, _⟩ := HBX.out W hW; go_simp; (try with_reducible rfl)); simp only [Act.put, List.setIfInBounds_toArray, List.set_cons_zero, List.set_cons_succ])
  apply sched_run; (exact rfl); rfl; intro K hK; go_simp
  have hbd := (Below.refl (w.heap.size + 1) W0).drew
  refine (weight_c _ fr AF cF _ (Nat.le_refl _) (HQ.out.fr.below (HBX.out _ hbd).2.2)).mono ?_
  rintro e w1 ⟨⟨m1, rfl⟩, hb⟩
  have HB1 := Lib.hid (hbd.trans (hb.mono (by rw [← HS0.out]; exact hbd.size)))
  clear hbd hb
  refine hK.out _ _ HB1.out (fun _ => ?_)
  clear hK K
  try simp only [Act.put, List.setIfInBounds_toArray, List.set_cons_zero, List.set_cons_succ]
  apply sched_run; (exact rfl); rfl; intro K hK; go_simp
  refine (weight_c _ tt AT cT _ (Nat.le_refl _) (HQ.out.tt.below (HBX.out _ HB1.out).2.2)).mono ?_
  rintro e w2 ⟨⟨m2, rfl⟩, hb⟩
  have HB2 := Lib.hid (HB1.out.trans (hb.mono (by rw [← HS0.out]; exact HB1.out.size)))
  clear hb
  refine hK.out _ _ HB2.out (fun _ => ?_)
  clear hK K
  try simp only [Act.put, List.setIfInBounds_toArray, List.set_cons_zero, List.set_cons_succ]
  repeat (apply sched_take; (exact rfl); rfl; (intro W hW; go_simp; (try with_reducible rfl)); simp only [Act.put, List.setIfInBounds_toArray, List.set_cons_zero, List.set_cons_succ])
  refine sched_done ?_
  go_wp2
  go_loopw [4, 3] (fun i v wr => ∃ (k : Nat) (n : Int), k ≤ wh.length ∧ i = .int .i64 k ∧ v = .int .i64 n ∧ Hid (Below (w.heap.size + 1) W0 wr)) (fun i _ _ => wh.length - (intOf i).toNat)
  case atStart => exact ⟨0, _, Nat.zero_le _, rfl, rfl, HB2⟩
  case round =>
    obtain ⟨k, n, hk, rfl, rfl, hB⟩ := hrel
    obtain ⟨⟨a0, a1, a2, a3, a4, a5, a6, a7, a8⟩, q3, q4⟩ := HBX.out _ hB.out
    have HWr := Lib.hid q4
    clear q4
    by_cases hlt : k < wh.length
    · by_cases hn : n < 100000
      · have HQr := Lib.hid (HQ.out.below HWr.out)
        obtain ⟨ab, ao, rfl⟩ : ∃ ab ao, AW = some ⟨ab, ao, none⟩ := by obtain ⟨b, o, e, _⟩ := HQr.out.wh.2 (show 0 < wh.length by omega); exact ⟨b, o, e⟩
        have HIT := Lib.hid (fun W (h : Below wr.heap.size wr W) => cond_at (HQr.out.below h).wh hlt)
        have HBY := Lib.hid (fun W (h : Below wr.heap.size wr W) => (HBX.out W (hB.out.trans (h.mono (show w.heap.size + 1 ≤ wr.heap.size from q3)))).1)
        have HX := Lib.hid (HQr.out.wx _ (List.getElem_mem hlt))
        simp only at HIT HX
        obtain ⟨y, hy⟩ : ∃ y, wh[k] = y := ⟨_, rfl⟩
        simp only [hy] at HIT HX
        clear hy
        rcases y with ⟨xc, xk, ⟨yk, yb, yn, yf, yt, yA, yc, yl⟩⟩
        simp only [VI.k, VI.b, VI.n, VI.f, VI.t, VI.A, VI.c, VI.l] at HIT
        have HYL := Lib.hid (show RdI wr yA yc yl from HX.out.1.list)
        go_wp2
        refine wp_region_sched (S := fun W => Below wr.heap.size wr W) [(0, true), (1, true), (2, true), (3, true), (4, true), (5, true), (6, true), (7, true), (8, true), (9, true), (10, true), (11, true), (12, true), (13, true), (14, true), (15, true), (16, true), (17, true), (18, false), (19, true), (20, true)] (by kernel_rfl) (by kernel_rfl) (by kernel_rfl) (fun _ _ d _ _ h => by cases d <;> exact h) (Below.refl _ _).drew ?_
        repeat (apply sched_take; (exact rfl); rfl; (intro W hW; obtain ⟨p0, p1, p2, p3, p4, p5, p6, p7⟩ := HIT.out W hW; obtain ⟨a0, a1, a2, a3, a4, a5, a6, a7, a8⟩ := HBY.out W hW; go_simp; (try with_reducible rfl)); simp only [Act.put, List.setIfInBounds_toArray, List.set_cons_zero, List.set_cons_succ])
        apply sched_run; (exact rfl); rfl; intro K hK; go_simp
        have hbd := (Below.refl wr.heap.size wr).drew
        refine (weight_c _ yl yA yc _ (Nat.le_refl _) (HYL.out.below hbd)).mono ?_
        rintro e w3 ⟨⟨m, rfl⟩, hb⟩
        have HB3 := Lib.hid (hbd.trans (hb.mono (show wr.heap.size ≤ _ from hbd.size)))
        clear hbd hb
        refine hK.out _ _ HB3.out (fun _ => ?_)
        clear hK K
        try simp only [Act.put, List.setIfInBounds_toArray, List.set_cons_zero, List.set_cons_succ]
        repeat (apply sched_take; (exact rfl); rfl; (intro W hW; go_simp; (try with_reducible rfl)); simp only [Act.put, List.setIfInBounds_toArray, List.set_cons_zero, List.set_cons_succ])
        refine sched_done ?_
        go_wp2
        exact ⟨⟨k + 1, _, by omega, by go_num, rfl, Lib.hid (hB.out.trans (HB3.out.mono q3))⟩, by simp [intOf]; omega⟩
      · go_wp2
        go_ret
        exact ⟨⟨_, rfl⟩, HWr.out⟩
    · go_wp2
      go_ret
      exact ⟨⟨_, rfl⟩, HWr.out⟩

end Go.Proofs.YtbndadjaofnnkaaGreatDoor
end

section
namespace Go.Proofs.YtbndadjaofnnkaaGreatDoor
open Go.RowKit
set_option maxHeartbeats 2000000
set_option maxRecDepth 100000

theorem results_cttt {P : Program} {fn : Func} {p u v x : Tmp} {ty : TypeId} (h : fn.results = #[.cell p ty, .tmp u, .tmp v, .tmp x]) (tmps : Array Value) (w : World) (g : Nat) (t : TypeId) (cs : Array Value) (fr : Nat × Nat) (d : TypeDesc)
    (hp : tmps.getD p undef = .pointer (some ⟨g, 0, none⟩)) (hg : w.heap[g]? = some (.cells cs t fr))
    (hu : P.underlying ty = some d) (hd : (match d with | .struct _ | .array _ _ => true | _ => false) = true) (hi : (P.info? ty).map (·.size) = some cs.size) :
    (results fn tmps).run P w = .ok (.tuple #[.agg cs, tmps.getD u undef, tmps.getD v undef, tmps.getD x undef]) w := by
  have hp' : tmps[p]?.getD undef = .pointer (some ⟨g, 0, none⟩) := by simpa using hp
  simp [results, h, hp', asAddr, run_loadVar_row w g t ty cs fr d hg hu hd hi]
theorem one3 : (#[Value.string ⟨#[]⟩, Value.slice none 0 0, Value.int IntKind.i64 0].all fun x => x.oneCell') = true := by simp [Value.oneCell']
theorem asked_c (q : QryV) (w : World) : Calls Tryz.prog 14 #[.pointer none, q.val] w fun e w' => e = .returned (.tuple #[.agg #[.string ⟨#[]⟩, .slice none 0 0, .int .i64 0], .string ⟨#[]⟩, .string ⟨#[]⟩, .int .i64 1]) ∧ Below w.heap.size w w' := by
  rcases q with ⟨qt, fr, tt, wh, qc, qd, ql, qf, qo, AF, cF, AT, cT, AW, cW, AC, cC⟩
  simp only [QryV.val, QryV.cells]
  have HR := Lib.hid (alloc2_at w (.cells #[.string qt, .slice AF fr.length cF, .slice AT tt.length cT, .slice AW wh.length cW, .slice AC qc.length cC, .bool qd, .int .i64 ql, .int .u8 qf, .string qo] 27) (.cells #[.string ⟨#[]⟩, .slice none 0 0, .int .i64 0] 48))
  have HB := Lib.hid (two_below w (.cells #[.string qt, .slice AF fr.length cF, .slice AT tt.length cT, .slice AW wh.length cW, .slice AC qc.length cC, .bool qd, .int .i64 ql, .int .u8 qf, .string qo] 27) (.cells #[.string ⟨#[]⟩, .slice none 0 0, .int .i64 0] 48))
  obtain ⟨W0, hW0⟩ : ∃ W0, (w.alloc (.cells #[.string qt, .slice AF fr.length cF, .slice AT tt.length cT, .slice AW wh.length cW, .slice AC qc.length cC, .bool qd, .int .i64 ql, .int .u8 qf, .string qo] 27)).alloc (.cells #[.string ⟨#[]⟩, .slice none 0 0, .int .i64 0] 48) = W0 := ⟨_, rfl⟩
  rw [hW0] at HR HB
  have HW0 := Lib.hid hW0
  clear hW0
  go_enter Tryz.func14, Tryz.ntmps14
  go_upto_region 1 with fail
  rw [HW0.out]
  go_wp2_with (first
    | (refine wpList_load_row rfl 48 (.tmp 4) rfl (w.heap.size + 1) rfl 48 #[.string ⟨#[]⟩, .slice none 0 0, .int .i64 0] (0, 0) _ HR.out Tryz.underlying48 rfl (by kernel_rfl) ?_)
    | (refine wpList_store_row rfl 48 (.tmp 4) (.tmp 17) rfl (w.heap.size + 1) #[.string ⟨#[]⟩, .slice none 0 0, .int .i64 0] rfl rfl 48 _ HR.out (by kernel_rfl) rfl one3 ?_))
  refine bodyPost_ret (results_cttt rfl _ _ (w.heap.size + 1) 48 _ (0, 0) _ rfl (setRow_block _ _ _ _ _ _ HR.out) Tryz.underlying48 rfl (by kernel_rfl)) rfl ⟨rfl, below_setRow HB.out (by omega) _⟩
theorem ask_c (q : QryV) (w : World) : Calls Tryz.prog 6 #[.pointer none, q.val] w fun e w' => e = .returned (.tuple #[.slice none 0 0, .int .i64 1]) ∧ Below w.heap.size w w' := by
  have HC := Lib.hid (fun w => asked_c q w)
  rcases q with ⟨qt, fr, tt, wh, qc, qd, ql, qf, qo, AF, cF, AT, cT, AW, cW, AC, cC⟩
  simp only [QryV.val, QryV.cells] at HC ⊢
  have HBX := Lib.hid (fun W (h : Below (w.heap.size + 1) (w.alloc (.cells #[.string qt, .slice AF fr.length cF, .slice AT tt.length cT, .slice AW wh.length cW, .slice AC qc.length cC, .bool qd, .int .i64 ql, .int .u8 qf, .string qo] 27)) W) => box_q h)
  have HB0 := Lib.hid ((Below.refl w.heap.size w).alloc (Nat.le_refl _) (.cells #[.string qt, .slice AF fr.length cF, .slice AT tt.length cT, .slice AW wh.length cW, .slice AC qc.length cC, .bool qd, .int .i64 ql, .int .u8 qf, .string qo] 27))
  go_enter Tryz.func6, Tryz.ntmps6
  go_upto_region 1 with fail
  obtain ⟨⟨a0, a1, a2, a3, a4, a5, a6, a7, a8⟩, q3, q4⟩ := HBX.out _ (Below.refl _ _)
  go_wp2_with (go_at_call 14; go_must (refine (HC.out _).mono ?_; rintro e w1 ⟨rfl, hb⟩; have HB1 := Lib.hid (HB0.out.trans (hb.mono HB0.out.size)); clear hb a0 a1 a2 a3 a4 a5 a6 a7 a8 q3 q4))
  go_ret2
  exact ⟨rfl, HB1.out.alloc HB1.out.size _⟩
theorem prove_c (q : QryV) (w : World) : Calls Tryz.prog 7 #[.pointer none, q.val] w fun e w' => e = .returned (.tuple #[.string ⟨#[]⟩, .int .i64 1]) ∧ Below w.heap.size w w' := by
  have HC := Lib.hid (fun w => asked_c q w)
  rcases q with ⟨qt, fr, tt, wh, qc, qd, ql, qf, qo, AF, cF, AT, cT, AW, cW, AC, cC⟩
  simp only [QryV.val, QryV.cells] at HC ⊢
  have HBX := Lib.hid (fun W (h : Below (w.heap.size + 1) (w.alloc (.cells #[.string qt, .slice AF fr.length cF, .slice AT tt.length cT, .slice AW wh.length cW, .slice AC qc.length cC, .bool qd, .int .i64 ql, .int .u8 qf, .string qo] 27)) W) => box_q h)
  have HB0 := Lib.hid ((Below.refl w.heap.size w).alloc (Nat.le_refl _) (.cells #[.string qt, .slice AF fr.length cF, .slice AT tt.length cT, .slice AW wh.length cW, .slice AC qc.length cC, .bool qd, .int .i64 ql, .int .u8 qf, .string qo] 27))
  go_enter Tryz.func7, Tryz.ntmps7
  go_upto_region 1 with fail
  obtain ⟨⟨a0, a1, a2, a3, a4, a5, a6, a7, a8⟩, q3, q4⟩ := HBX.out _ (Below.refl _ _)
  go_wp2_with (go_at_call 14; go_must (refine (HC.out _).mono ?_; rintro e w1 ⟨rfl, hb⟩; have HB1 := Lib.hid (HB0.out.trans (hb.mono HB0.out.size)); clear hb a0 a1 a2 a3 a4 a5 a6 a7 a8 q3 q4))
  go_ret2
  exact ⟨rfl, HB1.out.alloc HB1.out.size _⟩
theorem nil_law (q : QryV) (w : World) (hQ : RdQ w q) (hc : ∃ m, w.cell? ⟨1, 0, none⟩ = some (.int .i64 m)) : Calls Tryz.prog 3 #[q.val] w fun e w' => e = .returned (.bool true) ∧ Below w.heap.size w w' := by
  have HQ := Lib.hid hQ
  have HC := Lib.hid hc
  have HA := Lib.hid (fun w => ask_c q w)
  have HP := Lib.hid (fun w => prove_c q w)
  have HV := Lib.hid (fun w h => vast_c q w h)
  rcases q with ⟨qt, fr, tt, wh, qc, qd, ql, qf, qo, AF, cF, AT, cT, AW, cW, AC, cC⟩
  simp only [QryV.val, QryV.cells] at HA HP HV ⊢
  obtain ⟨W0, hW0⟩ : ∃ W0, w.alloc (.cells #[.string qt, .slice AF fr.length cF, .slice AT tt.length cT, .slice AW wh.length cW, .slice AC qc.length cC, .bool qd, .int .i64 ql, .int .u8 qf, .string qo] 27) = W0 := ⟨_, rfl⟩
  have HW0 := Lib.hid hW0
  have HBX := Lib.hid (fun W (h : Below (w.heap.size + 1) W0 W) => box_q (hW0 ▸ h))
  have HB0 := Lib.hid (show Below w.heap.size w W0 by rw [← hW0]; exact (Below.refl _ _).alloc (Nat.le_refl _) _)
  have HS0 := Lib.hid (show W0.heap.size = w.heap.size + 1 by rw [← hW0]; simp)
  clear hQ hc hW0
  go_enter Tryz.func3, Tryz.ntmps3
  go_upto_region 1 with fail
  rw [HW0.out]
  obtain ⟨⟨a0, a1, a2, a3, a4, a5, a6, a7, a8⟩, q3, q4⟩ := HBX.out W0 (Below.refl _ _)
  go_upto_if 8 with (go_at_call 4; go_must (refine (HV.out W0 (HQ.out.below HB0.out)).mono ?_; rintro e w1 ⟨⟨b, rfl⟩, hb⟩; have HB1 := Lib.hid (hb.mono (Nat.le_of_eq HS0.out.symm)); clear hb a0 a1 a2 a3 a4 a5 a6 a7 a8 q3 q4))
  have HW1 := Lib.hid (HBX.out _ HB1.out).2.2
  cases b with
  | true =>
    go_wp2_with (go_at_call 5; go_must (refine (awake_c w1 (cell_keep HC.out (Nat.le_refl _) HW1.out)).mono ?_; rintro e w2 ⟨rfl, hb⟩; have HB2 := Lib.hid (HW1.out.trans (hb.mono HW1.out.size)); clear hb))
    go_ret
    exact ⟨rfl, HB2.out⟩
  | false =>
    obtain ⟨⟨a0, a1, a2, a3, a4, a5, a6, a7, a8⟩, q3, q4⟩ := HBX.out _ HB1.out
    go_wp2_with (first
      | (go_at_call 6; go_must (refine (HA.out _).mono ?_; rintro e w2 ⟨rfl, hb⟩; have HB2 := Lib.hid (HB1.out.trans (hb.mono (show w.heap.size + 1 ≤ _ from q3))); clear hb a0 a1 a2 a3 a4 a5 a6 a7 a8 q3 q4; obtain ⟨⟨a0, a1, a2, a3, a4, a5, a6, a7, a8⟩, q3, q4⟩ := HBX.out _ HB2.out))
      | (go_at_call 7; go_must (refine (HP.out _).mono ?_; rintro e w3 ⟨rfl, hb⟩; have HB3 := Lib.hid (HB2.out.trans (hb.mono (show w.heap.size + 1 ≤ _ from q3))); clear hb a0 a1 a2 a3 a4 a5 a6 a7 a8 q3 q4; have HW3 := Lib.hid (HBX.out _ HB3.out).2.2))
      | (go_at_call 5; go_must (refine (awake_c w3 (cell_keep HC.out (Nat.le_refl _) HW3.out)).mono ?_; rintro e w4 ⟨rfl, hb⟩; have HB4 := Lib.hid (HW3.out.trans (hb.mono HW3.out.size)); clear hb)))
    go_ret
    exact ⟨rfl, HB4.out⟩

end Go.Proofs.YtbndadjaofnnkaaGreatDoor
end
