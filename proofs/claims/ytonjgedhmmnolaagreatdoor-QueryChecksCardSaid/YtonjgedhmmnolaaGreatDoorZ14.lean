import Derived.Test.YtonjgedhmmnolaaGreatDoorZ13

section
namespace Go.Proofs.YtonjgedhmmnolaaGreatDoor
open Go.RowKit
set_option maxHeartbeats 1000000
set_option maxRecDepth 100000

theorem weight_c : ∀ (s : Nat) (l : List VI) (A : Option Addr) (c : Nat) (w : World), SizeOf.sizeOf l ≤ s → RdI w A c l → Calls Tryz.prog 24 #[.slice A l.length c] w fun e w' => (∃ n, e = .returned (.int .i64 n)) ∧ Below w.heap.size w w' := by
  intro s
  induction s with
  | zero => intro l A c w hs; exfalso; cases l <;> simp at hs
  | succ s ih =>
  intro l A c w hs hL
  have HIH := Lib.hid ih
  have HS := Lib.hid hs
  have HL := Lib.hid hL
  have hlb := hL.hb
  clear ih hs hL
  go_enter Tryz.func24, Tryz.ntmps24
  go_wp2
  go_loopw [4, 3] (fun i v wr => ∃ (k : Nat) (n : Int), k ≤ l.length ∧ i = .int .i64 k ∧ v = .int .i64 n ∧ Hid (Below w.heap.size w wr)) (fun i _ _ => l.length - (intOf i).toNat)
  case atStart => exact ⟨0, _, Nat.zero_le _, rfl, rfl, Lib.hid (Below.refl _ _)⟩
  case round =>
    obtain ⟨k, n, hk, rfl, rfl, hB⟩ := hrel
    by_cases hlt : k < l.length
    · by_cases hn : n < 100000
      · have HLr := Lib.hid (HL.out.below hB.out)
        obtain ⟨ab, ao, rfl⟩ : ∃ ab ao, A = some ⟨ab, ao, none⟩ := by obtain ⟨b, o, e, _⟩ := HLr.out.rd.2 (by omega); exact ⟨b, o, e⟩
        have HIT := Lib.hid (fun W (h : Below wr.heap.size wr W) => item_at (HLr.out.below h).rd hlt)
        have HX := Lib.hid (HLr.out.hx _ (List.getElem_mem hlt))
        have HSX := Lib.hid (show SizeOf.sizeOf l[k].l ≤ s by have h1 := sz_lt (List.getElem_mem hlt); have h2 := HS.out; have h3 := sz_list l[k]; omega)
        obtain ⟨y, hy⟩ : ∃ y, l[k] = y := ⟨_, rfl⟩
        simp only [hy] at HIT HX HSX
        clear hy
        rcases y with ⟨yk, yb, yn, yf, yt, yA, yc, yl⟩
        simp only [VI.k, VI.b, VI.n, VI.f, VI.t, VI.A, VI.c, VI.l] at HIT HSX
        have HYL := Lib.hid (show RdI wr yA yc yl from HX.out.list)
        go_wp2
        refine wp_region_sched (S := fun W => Below wr.heap.size wr W) [(0, true), (1, true), (2, true), (3, true), (4, true), (5, true), (6, true), (7, true), (8, true), (9, true), (10, true), (11, true), (12, true), (13, false), (14, true), (15, true)] (by kernel_rfl) (by kernel_rfl) (by kernel_rfl) (fun _ _ d _ _ h => by cases d <;> exact h) (Below.refl _ _).drew ?_
        repeat (apply sched_take; (exact rfl); rfl; (intro W hW; obtain ⟨p0, p1, p2, p3, p4, p5⟩ := HIT.out W hW; go_simp; (try with_reducible rfl)); simp only [Act.put, List.setIfInBounds_toArray, List.set_cons_zero, List.set_cons_succ])
        apply sched_run; (exact rfl); rfl; intro K hK; go_simp
        have hbd := (Below.refl wr.heap.size wr).drew
        refine (HIH.out yl yA yc _ HSX.out (HYL.out.below hbd)).mono ?_
        rintro e w1 ⟨⟨m, rfl⟩, hb⟩
        have HB1 := Lib.hid (hbd.trans (hb.mono (show wr.heap.size ≤ _ from hbd.size)))
        clear hbd hb
        refine hK.out _ _ HB1.out (fun _ => ?_)
        clear hK K
        try simp only [Act.put, List.setIfInBounds_toArray, List.set_cons_zero, List.set_cons_succ]
        repeat (apply sched_take; (exact rfl); rfl; (intro W hW; go_simp; (try with_reducible rfl)); simp only [Act.put, List.setIfInBounds_toArray, List.set_cons_zero, List.set_cons_succ])
        refine sched_done ?_
        go_wp2
        exact ⟨⟨k + 1, _, by omega, by go_num, rfl, Lib.hid (hB.out.trans (HB1.out.mono hB.out.size))⟩, by simp [intOf]; omega⟩
      · go_wp2
        go_ret
        exact ⟨⟨_, rfl⟩, hB.out⟩
    · go_wp2
      go_ret
      exact ⟨⟨_, rfl⟩, hB.out⟩
/-- The box of a question, in a later world. -/
theorem box_q {w W : World} {a0 a1 a2 a3 a4 a5 a6 a7 a8 : Value} (h : Below (w.heap.size + 1) (w.alloc (.cells #[a0, a1, a2, a3, a4, a5, a6, a7, a8] 33)) W) :
    (W.cell? ⟨w.heap.size, 0, none⟩ = some a0 ∧ W.cell? ⟨w.heap.size, 1, none⟩ = some a1 ∧ W.cell? ⟨w.heap.size, 2, none⟩ = some a2 ∧ W.cell? ⟨w.heap.size, 3, none⟩ = some a3 ∧ W.cell? ⟨w.heap.size, 4, none⟩ = some a4 ∧ W.cell? ⟨w.heap.size, 5, none⟩ = some a5 ∧ W.cell? ⟨w.heap.size, 6, none⟩ = some a6 ∧ W.cell? ⟨w.heap.size, 7, none⟩ = some a7 ∧ W.cell? ⟨w.heap.size, 8, none⟩ = some a8) ∧ w.heap.size < W.heap.size ∧ Below w.heap.size w W := by
  have h1 : W.heap[w.heap.size]? = some (.cells #[a0, a1, a2, a3, a4, a5, a6, a7, a8] 33 (0, 0)) := (h.block _ (by omega)).trans (heap_alloc_new w _)
  exact ⟨⟨cell_of_row _ _ 0 _ _ _ h1, cell_of_row _ _ 1 _ _ _ h1, cell_of_row _ _ 2 _ _ _ h1, cell_of_row _ _ 3 _ _ _ h1, cell_of_row _ _ 4 _ _ _ h1, cell_of_row _ _ 5 _ _ _ h1, cell_of_row _ _ 6 _ _ _ h1, cell_of_row _ _ 7 _ _ _ h1, cell_of_row _ _ 8 _ _ _ h1⟩, (Array.getElem?_eq_some_iff.1 h1).1, ((Below.refl _ _).alloc (Nat.le_refl _) _).trans (h.mono (by omega))⟩
/-- Some bool is returned. -/
def SomeB (e : Ending) : Prop := ∃ b, e = .returned (.bool b)
theorem vast_c (q : QryV) (w : World) (hQ : RdQ w q) : Calls Tryz.prog 9 #[q.val] w fun e w' => SomeB e ∧ Below w.heap.size w w' := by
  have HQ := Lib.hid hQ
  have hwb := hQ.wb
  rcases q with ⟨qt, fr, tt, wh, qc, qd, ql, qf, qo, AF, cF, AT, cT, AW, cW, AC, cC⟩
  simp only [QryV.val, QryV.cells] at hwb ⊢
  obtain ⟨W0, hW0⟩ : ∃ W0, w.alloc (.cells #[.string qt, .slice AF fr.length cF, .slice AT tt.length cT, .slice AW wh.length cW, .slice AC qc.length cC, .bool qd, .int .i64 ql, .int .u8 qf, .string qo] 33) = W0 := ⟨_, rfl⟩
  have HW0 := Lib.hid hW0
  have HBX := Lib.hid (fun W (h : Below (w.heap.size + 1) W0 W) => box_q (hW0 ▸ h))
  have HS0 := Lib.hid (show W0.heap.size = w.heap.size + 1 by rw [← hW0]; simp)
  clear hQ hW0
  go_enter Tryz.func9, Tryz.ntmps9
  go_upto_region 1 with fail
  rw [HW0.out]
  refine wp_region_sched (S := fun W => Below (w.heap.size + 1) W0 W) [(0, true), (1, true), (3, true), (4, true), (2, false), (5, false), (6, true), (7, true)] (by kernel_rfl) (by kernel_rfl) (by kernel_rfl) (fun _ _ d _ _ h => by cases d <;> exact h) (Below.refl _ _).drew ?_
  repeat (apply sched_take; (exact rfl); rfl; (intro W hW; obtain ⟨⟨a0, a1, a2, a3, a4, a5, a6, a7, a8⟩, q3, _⟩ := HBX.out W hW; go_simp; (try with_reducible rfl)); simp only [Act.put, List.setIfInBounds_toArray, List.set_cons_zero, List.set_cons_succ])
  apply sched_run; (exact rfl); rfl; intro K hK; go_simp
  have hbd := (Below.refl (w.heap.size + 1) W0).drew
  refine (weight_c _ fr AF cF _ (Nat.le_refl _) (HQ.out.fr.below (HBX.out _ hbd).2.2)).mono ?_
  rintro e w1 ⟨⟨m1, rfl⟩, hb⟩
  have HB1 := Lib.hid (hbd.trans (hb.mono (by rw [← HS0.out]; exact hbd.size)))
  clear hbd hb
  refine hK.out _ _ HB1.out (fun _ => ?_)
  clear hK K
  try simp only [Act.put, List.setIfInBounds_toArray, List.set_cons_zero, List.set_cons_succ]
  apply sched_run; (exact rfl); rfl; intro K hK; go_simp
  refine (weight_c _ tt AT cT _ (Nat.le_refl _) (HQ.out.tt.below (HBX.out _ HB1.out).2.2)).mono ?_
  rintro e w2 ⟨⟨m2, rfl⟩, hb⟩
  have HB2 := Lib.hid (HB1.out.trans (hb.mono (by rw [← HS0.out]; exact HB1.out.size)))
  clear hb
  refine hK.out _ _ HB2.out (fun _ => ?_)
  clear hK K
  try simp only [Act.put, List.setIfInBounds_toArray, List.set_cons_zero, List.set_cons_succ]
  repeat (apply sched_take; (exact rfl); rfl; (intro W hW; go_simp; (try with_reducible rfl)); simp only [Act.put, List.setIfInBounds_toArray, List.set_cons_zero, List.set_cons_succ])
  refine sched_done ?_
  go_wp2
  go_loopw [4, 3] (fun i v wr => ∃ (k : Nat) (n : Int), k ≤ wh.length ∧ i = .int .i64 k ∧ v = .int .i64 n ∧ Hid (Below (w.heap.size + 1) W0 wr)) (fun i _ _ => wh.length - (intOf i).toNat)
  case atStart => exact ⟨0, _, Nat.zero_le _, rfl, rfl, HB2⟩
  case round =>
    obtain ⟨k, n, hk, rfl, rfl, hB⟩ := hrel
    obtain ⟨⟨a0, a1, a2, a3, a4, a5, a6, a7, a8⟩, q3, q4⟩ := HBX.out _ hB.out
    have HWr := Lib.hid q4
    clear q4
    by_cases hlt : k < wh.length
    · by_cases hn : n < 100000
      · have HQr := Lib.hid (HQ.out.below HWr.out)
        obtain ⟨ab, ao, rfl⟩ : ∃ ab ao, AW = some ⟨ab, ao, none⟩ := by obtain ⟨b, o, e, _⟩ := HQr.out.wh.2 (show 0 < wh.length by omega); exact ⟨b, o, e⟩
        have HIT := Lib.hid (fun W (h : Below wr.heap.size wr W) => cond_at (HQr.out.below h).wh hlt)
        have HBY := Lib.hid (fun W (h : Below wr.heap.size wr W) => (HBX.out W (hB.out.trans (h.mono (show w.heap.size + 1 ≤ wr.heap.size from q3)))).1)
        have HX := Lib.hid (HQr.out.wx _ (List.getElem_mem hlt))
        simp only at HIT HX
        obtain ⟨y, hy⟩ : ∃ y, wh[k] = y := ⟨_, rfl⟩
        simp only [hy] at HIT HX
        clear hy
        rcases y with ⟨xc, xk, ⟨yk, yb, yn, yf, yt, yA, yc, yl⟩⟩
        simp only [VI.k, VI.b, VI.n, VI.f, VI.t, VI.A, VI.c, VI.l] at HIT
        have HYL := Lib.hid (show RdI wr yA yc yl from HX.out.1.list)
        go_wp2
        refine wp_region_sched (S := fun W => Below wr.heap.size wr W) [(0, true), (1, true), (2, true), (3, true), (4, true), (5, true), (6, true), (7, true), (8, true), (9, true), (10, true), (11, true), (12, true), (13, true), (14, true), (15, true), (16, true), (17, true), (18, false), (19, true), (20, true)] (by kernel_rfl) (by kernel_rfl) (by kernel_rfl) (fun _ _ d _ _ h => by cases d <;> exact h) (Below.refl _ _).drew ?_
        repeat (apply sched_take; (exact rfl); rfl; (intro W hW; obtain ⟨p0, p1, p2, p3, p4, p5, p6, p7⟩ := HIT.out W hW; obtain ⟨a0, a1, a2, a3, a4, a5, a6, a7, a8⟩ := HBY.out W hW; go_simp; (try with_reducible rfl)); simp only [Act.put, List.setIfInBounds_toArray, List.set_cons_zero, List.set_cons_succ])
        apply sched_run; (exact rfl); rfl; intro K hK; go_simp
        have hbd := (Below.refl wr.heap.size wr).drew
        refine (weight_c _ yl yA yc _ (Nat.le_refl _) (HYL.out.below hbd)).mono ?_
        rintro e w3 ⟨⟨m, rfl⟩, hb⟩
        have HB3 := Lib.hid (hbd.trans (hb.mono (show wr.heap.size ≤ _ from hbd.size)))
        clear hbd hb
        refine hK.out _ _ HB3.out (fun _ => ?_)
        clear hK K
        try simp only [Act.put, List.setIfInBounds_toArray, List.set_cons_zero, List.set_cons_succ]
        repeat (apply sched_take; (exact rfl); rfl; (intro W hW; go_simp; (try with_reducible rfl)); simp only [Act.put, List.setIfInBounds_toArray, List.set_cons_zero, List.set_cons_succ])
        refine sched_done ?_
        go_wp2
        exact ⟨⟨k + 1, _, by omega, by go_num, rfl, Lib.hid (hB.out.trans (HB3.out.mono q3))⟩, by simp [intOf]; omega⟩
      · go_wp2
        go_ret
        exact ⟨⟨_, rfl⟩, HWr.out⟩
    · go_wp2
      go_ret
      exact ⟨⟨_, rfl⟩, HWr.out⟩

end Go.Proofs.YtonjgedhmmnolaaGreatDoor
end

section
namespace Go.Proofs.YtonjgedhmmnolaaGreatDoor
open Go.RowKit
set_option maxHeartbeats 1000000
set_option maxRecDepth 100000

/-- Items that are alike: any NaN as any other. -/
inductive SameI : ItemD → ItemD → Prop
  | mk (k : Int) (b : Bool) (n : Int) (f g : Nat) (t : ByteArray) (l m : List ItemD) (hf : bitsF f = bitsF g) (hl : l.length = m.length) (hx : ∀ i (h1 : i < l.length) (h2 : i < m.length), SameI l[i] m[i]) : SameI (.mk k b n f t l) (.mk k b n g t m)
theorem SameI.refl (s : Nat) : ∀ x : ItemD, SizeOf.sizeOf x ≤ s → SameI x x := by
  induction s with
  | zero => intro x h; exfalso; cases x; simp at h
  | succ s ih =>
    intro x h
    rcases x with ⟨k, b, n, f, t, l⟩
    refine .mk k b n f f t l l rfl rfl fun i h1 _ => ih _ ?_
    have := List.sizeOf_lt_of_mem (List.getElem_mem h1)
    simp at h
    omega
/-- Lists of items that are alike. -/
structure SameL (a b : List ItemD) : Prop where
  len : a.length = b.length
  hx : ∀ i (h1 : i < a.length) (h2 : i < b.length), SameI a[i] b[i]
theorem SameL.refl (a : List ItemD) : SameL a a := ⟨rfl, fun _ _ _ => SameI.refl _ _ (Nat.le_refl _)⟩
theorem SameI.parts {xk yk xn yn : Int} {xb yb : Bool} {xf yf xc yc : Nat} {xt yt : ByteArray} {xA yA : Option Addr} {xl yl : List VI} (h : SameI (VI.mk xk xb xn xf xt xA xc xl).data (VI.mk yk yb yn yf yt yA yc yl).data) :
    yk = xk ∧ yb = xb ∧ yn = xn ∧ bitsF yf = bitsF xf ∧ yt = xt ∧ SameL (VI.dataL xl) (VI.dataL yl) := by
  simp only [VI.data] at h
  cases h with
  | mk _ _ _ _ _ _ _ _ hf hl hx => exact ⟨rfl, rfl, rfl, hf.symm, rfl, hl, hx⟩
theorem refBits_c (f : Nat) (w : World) : Calls Tryz.prog 72 #[.float .f64 f] w fun e w' => e = .returned (.int .u64 (bitsF f)) ∧ w = w' := by
  have hc := bits_call
  go_enter Tryz.func72, Tryz.ntmps72
  go_wp2
  all_goals first
    | (go_ret
       refine ⟨?_, rfl⟩
       simp_all [bitsF, isNan]
       done)
    | skip
/-- Two boxes of items, in either order. -/
structure TwoAt (w : World) (g1 g2 : Nat) (cs1 cs2 : Array Value) (W : World) : Prop where
  r1 : W.heap[g1]? = some (.cells cs1 54 (0, 0))
  r2 : W.heap[g2]? = some (.cells cs2 54 (0, 0))
  b : Below w.heap.size w W
theorem TwoAt.cells {w W W' : World} {g1 g2 : Nat} {k n k' n' : Int} {b b' : Bool} {f f' l l' c c' : Nat} {t t' : ByteArray} {A A' : Option Addr} (h : TwoAt w g1 g2 (c6 k b n f t A l c) (c6 k' b' n' f' t' A' l' c') W) (hb : Below W.heap.size W W') :
    (W'.cell? ⟨g1, 0, none⟩ = some (.int .u8 k) ∧ W'.cell? ⟨g1, 1, none⟩ = some (.bool b) ∧ W'.cell? ⟨g1, 2, none⟩ = some (.int .i64 n) ∧ W'.cell? ⟨g1, 3, none⟩ = some (.float .f64 f) ∧ W'.cell? ⟨g1, 4, none⟩ = some (.string t) ∧ W'.cell? ⟨g1, 5, none⟩ = some (.slice A l c)) ∧
    (W'.cell? ⟨g2, 0, none⟩ = some (.int .u8 k') ∧ W'.cell? ⟨g2, 1, none⟩ = some (.bool b') ∧ W'.cell? ⟨g2, 2, none⟩ = some (.int .i64 n') ∧ W'.cell? ⟨g2, 3, none⟩ = some (.float .f64 f') ∧ W'.cell? ⟨g2, 4, none⟩ = some (.string t') ∧ W'.cell? ⟨g2, 5, none⟩ = some (.slice A' l' c')) := by
  have h1 := row_keep' h.r1 hb
  have h2 := row_keep' h.r2 hb
  exact ⟨⟨cell_of_row _ _ 0 _ _ _ h1, cell_of_row _ _ 1 _ _ _ h1, cell_of_row _ _ 2 _ _ _ h1, cell_of_row _ _ 3 _ _ _ h1, cell_of_row _ _ 4 _ _ _ h1, cell_of_row _ _ 5 _ _ _ h1⟩, ⟨cell_of_row _ _ 0 _ _ _ h2, cell_of_row _ _ 1 _ _ _ h2, cell_of_row _ _ 2 _ _ _ h2, cell_of_row _ _ 3 _ _ _ h2, cell_of_row _ _ 4 _ _ _ h2, cell_of_row _ _ 5 _ _ _ h2⟩⟩
theorem same_c : ∀ (s : Nat) (l m : List VI) (A B : Option Addr) (c d : Nat) (w : World), SizeOf.sizeOf l ≤ s → RdI w A c l → RdI w B d m → SameL (VI.dataL l) (VI.dataL m) →
    Calls Tryz.prog 40 #[.slice A l.length c, .slice B m.length d] w fun e w' => e = .returned (.bool true) ∧ Below w.heap.size w w' := by
  intro s
  induction s with
  | zero => intro l m A B c d w hs; exfalso; cases l <;> simp at hs
  | succ s ih =>
  intro l m A B c d w hs hL hM hE
  have HIH := Lib.hid ih
  have HS := Lib.hid hs
  have HL := Lib.hid hL
  have HM := Lib.hid hM
  have HE := Lib.hid hE
  have hlb := hL.hb
  have HLN := Lib.hid (show l.length = m.length by have := hE.len; rw [dataL_eq, dataL_eq, List.length_map, List.length_map] at this; exact this)
  rw [← HLN.out]
  have e0 : ((l.length : Int) != l.length) = false := by simp
  clear ih hs hL hM hE
  go_enter Tryz.func40, Tryz.ntmps40
  go_wp2
  go_loopw [5] (fun i wr => ∃ (k : Nat), k ≤ l.length ∧ i = .int .i64 k ∧ Hid (Below w.heap.size w wr)) (fun i _ => l.length - (intOf i).toNat)
  case atStart => exact ⟨0, Nat.zero_le _, rfl, Lib.hid (Below.refl _ _)⟩
  case round =>
    obtain ⟨k, hk, rfl, hB⟩ := hrel
    by_cases hlt : k < l.length
    · have HLr := Lib.hid (HL.out.below hB.out)
      have HMr := Lib.hid (HM.out.below hB.out)
      have hltm : k < m.length := by rw [← HLN.out]; exact hlt
      obtain ⟨ab, ao, rfl⟩ : ∃ ab ao, A = some ⟨ab, ao, none⟩ := by obtain ⟨b, o, e, _⟩ := HLr.out.rd.2 (by omega); exact ⟨b, o, e⟩
      obtain ⟨mb, mo, rfl⟩ : ∃ ab ao, B = some ⟨ab, ao, none⟩ := by obtain ⟨b, o, e, _⟩ := HMr.out.rd.2 (by omega); exact ⟨b, o, e⟩
      have HIT := Lib.hid (fun W (h : Below wr.heap.size wr W) => item_at (HLr.out.below h).rd hlt)
      have HIU := Lib.hid (fun W (h : Below wr.heap.size wr W) => item_at (HMr.out.below h).rd hltm)
      have HX := Lib.hid (HLr.out.hx _ (List.getElem_mem hlt))
      have HY := Lib.hid (HMr.out.hx _ (List.getElem_mem hltm))
      have HSX := Lib.hid (show SizeOf.sizeOf l[k].l ≤ s by have h1 := sz_lt (List.getElem_mem hlt); have h2 := HS.out; have h3 := sz_list l[k]; omega)
      have HEK := Lib.hid (show SameI l[k].data m[k].data by
        have := HE.out.hx k (by rw [dataL_eq, List.length_map]; exact hlt) (by rw [dataL_eq, List.length_map]; exact hltm)
        rw [data_at l k hlt, data_at m k hltm] at this; exact this)
      obtain ⟨x, hx⟩ : ∃ x, l[k] = x := ⟨_, rfl⟩
      obtain ⟨y, hy⟩ : ∃ y, m[k] = y := ⟨_, rfl⟩
      simp only [hx] at HIT HX HSX HEK
      simp only [hy] at HIU HY HEK
      clear hx hy hltm
      rcases x with ⟨xk, xb, xn, xf, xt, xA, xc, xl⟩
      rcases y with ⟨yk, yb, yn, yf, yt, yA, yc, yl⟩
      obtain ⟨rfl, rfl, rfl, hbf, rfl, hsl⟩ := SameI.parts HEK.out
      have HBF := Lib.hid hbf
      have HSL := Lib.hid hsl
      simp only [VI.k, VI.b, VI.n, VI.f, VI.t, VI.A, VI.c, VI.l] at HIT HIU HSX
      have HXL := Lib.hid (show RdI wr xA xc xl from HX.out.list)
      have HYL := Lib.hid (show RdI wr yA yc yl from HY.out.list)
      clear hbf hsl HEK
      go_upto_region 6 with fail
      go_cut [6, 7] from 13 to 69 (fun s6 s7 wx => ∃ g1 g2 : Nat, s6 = .pointer (some ⟨g1, 0, none⟩) ∧ s7 = .pointer (some ⟨g2, 0, none⟩) ∧ Hid (TwoAt wr g1 g2 (c6 yk yb yn xf yt xA xl.length xc) (c6 yk yb yn yf yt yA yl.length yc) wx))
      case first =>
        refine wp_region_tree (S := fun W => Below wr.heap.size wr W)
          (.take 0 (.take 1 (.take 2 (.take 3 (.take 4 (.take 5 (.take 6 (.take 7 (.two 8 9 (.run 9 (.run 10 (.run 11 (.done)))) (.run 8 (.run 10 (.run 11 (.done)))))))))))))
          (by kernel_rfl) (by kernel_rfl) (by kernel_rfl) (fun _ _ d _ _ h => by cases d <;> exact h) (Below.refl _ _).drew ?_
        repeat (apply tree_take; (exact rfl); rfl; (intro W hW; obtain ⟨p0, p1, p2, p3, p4, p5⟩ := HIT.out W hW; obtain ⟨q0, q1, q2, q3, q4, q5⟩ := HIU.out W hW; go_simp; (try with_reducible rfl)); simp only [Act.put, List.setIfInBounds_toArray, List.set_cons_zero, List.set_cons_succ])
        refine tree_two ?_ ?_
        · apply tree_run; (exact rfl); rfl; intro K hK; go_simp
          refine hK.out _ _ ((Below.refl wr.heap.size wr).alloc (Nat.le_refl _) (.cells (c6 0 false 0 0 ⟨#[]⟩ none 0 0) 54)).drew (fun _ => ?_)
          clear hK K
          try simp only [Act.put, List.setIfInBounds_toArray, List.set_cons_zero, List.set_cons_succ]
          apply tree_run; (exact rfl); rfl; intro K hK; go_simp
          refine hK.out _ _ (((Below.refl wr.heap.size wr).alloc (Nat.le_refl _) (.cells (c6 0 false 0 0 ⟨#[]⟩ none 0 0) 54)).alloc (by simp) (.cells (c6 0 false 0 0 ⟨#[]⟩ none 0 0) 54)).drew (fun _ => ?_)
          clear hK K
          try simp only [Act.put, List.setIfInBounds_toArray, List.set_cons_zero, List.set_cons_succ]
          apply tree_run; (exact rfl); rfl; intro K hK; go_simp
          refine hK.out _ _ (((Below.refl wr.heap.size wr).alloc (Nat.le_refl _) (.cells (c6 yk yb yn xf yt xA xl.length xc) 54)).alloc (by simp) (.cells (c6 0 false 0 0 ⟨#[]⟩ none 0 0) 54)).drew (fun _ => ?_)
          clear hK K
          try simp only [Act.put, List.setIfInBounds_toArray, List.set_cons_zero, List.set_cons_succ]
          apply tree_run; (exact rfl); rfl; intro K hK; go_simp
          refine hK.out _ _ (((Below.refl wr.heap.size wr).alloc (Nat.le_refl _) (.cells (c6 yk yb yn xf yt xA xl.length xc) 54)).alloc (by simp) (.cells (c6 yk yb yn yf yt yA yl.length yc) 54)).drew (fun _ => ?_)
          clear hK K
          try simp only [Act.put, List.setIfInBounds_toArray, List.set_cons_zero, List.set_cons_succ]
          refine tree_done ?_
          go_wp2
          go_meet
          case rel => exact ⟨wr.heap.size, wr.heap.size + 1, rfl, rfl, Lib.hid ⟨row_keep' (heap_alloc_new wr (.cells (c6 yk yb yn xf yt xA xl.length xc) 54)) ((Below.refl _ _).alloc (Nat.le_refl _) (.cells (c6 yk yb yn yf yt yA yl.length yc) 54)).drew, alloc2_at wr (.cells (c6 yk yb yn xf yt xA xl.length xc) 54) (.cells (c6 yk yb yn yf yt yA yl.length yc) 54), (((Below.refl wr.heap.size wr).alloc (Nat.le_refl _) (.cells (c6 yk yb yn xf yt xA xl.length xc) 54)).alloc (by simp) (.cells (c6 yk yb yn yf yt yA yl.length yc) 54)).drew⟩⟩
        · apply tree_run; (exact rfl); rfl; intro K hK; go_simp
          refine hK.out _ _ ((Below.refl wr.heap.size wr).alloc (Nat.le_refl _) (.cells (c6 0 false 0 0 ⟨#[]⟩ none 0 0) 54)).drew (fun _ => ?_)
          clear hK K
          try simp only [Act.put, List.setIfInBounds_toArray, List.set_cons_zero, List.set_cons_succ]
          apply tree_run; (exact rfl); rfl; intro K hK; go_simp
          refine hK.out _ _ (((Below.refl wr.heap.size wr).alloc (Nat.le_refl _) (.cells (c6 0 false 0 0 ⟨#[]⟩ none 0 0) 54)).alloc (by simp) (.cells (c6 0 false 0 0 ⟨#[]⟩ none 0 0) 54)).drew (fun _ => ?_)
          clear hK K
          try simp only [Act.put, List.setIfInBounds_toArray, List.set_cons_zero, List.set_cons_succ]
          apply tree_run; (exact rfl); rfl; intro K hK; go_simp
          refine hK.out _ _ (((Below.refl wr.heap.size wr).alloc (Nat.le_refl _) (.cells (c6 0 false 0 0 ⟨#[]⟩ none 0 0) 54)).alloc (by simp) (.cells (c6 yk yb yn xf yt xA xl.length xc) 54)).drew (fun _ => ?_)
          clear hK K
          try simp only [Act.put, List.setIfInBounds_toArray, List.set_cons_zero, List.set_cons_succ]
          apply tree_run; (exact rfl); rfl; intro K hK; go_simp
          refine hK.out _ _ (((Below.refl wr.heap.size wr).alloc (Nat.le_refl _) (.cells (c6 yk yb yn yf yt yA yl.length yc) 54)).alloc (by simp) (.cells (c6 yk yb yn xf yt xA xl.length xc) 54)).drew (fun _ => ?_)
          clear hK K
          try simp only [Act.put, List.setIfInBounds_toArray, List.set_cons_zero, List.set_cons_succ]
          refine tree_done ?_
          go_wp2
          go_meet
          case rel => exact ⟨wr.heap.size + 1, wr.heap.size, rfl, rfl, Lib.hid ⟨alloc2_at wr (.cells (c6 yk yb yn yf yt yA yl.length yc) 54) (.cells (c6 yk yb yn xf yt xA xl.length xc) 54), row_keep' (heap_alloc_new wr (.cells (c6 yk yb yn yf yt yA yl.length yc) 54)) ((Below.refl _ _).alloc (Nat.le_refl _) (.cells (c6 yk yb yn xf yt xA xl.length xc) 54)).drew, (((Below.refl wr.heap.size wr).alloc (Nat.le_refl _) (.cells (c6 yk yb yn yf yt yA yl.length yc) 54)).alloc (by simp) (.cells (c6 yk yb yn xf yt xA xl.length xc) 54)).drew⟩⟩
      case rest =>
        obtain ⟨g1, g2, rfl, rfl, hT⟩ := hcut
        have HTC := Lib.hid (fun W (h : Below wc.heap.size wc W) => hT.out.cells h)
        go_wp2
        refine wp_region_sched (S := fun W => Below wc.heap.size wc W) [(0, true), (1, true), (2, true), (3, true), (4, true), (5, true), (6, true), (7, true), (8, true), (9, true), (10, true), (11, true), (12, true), (13, true), (14, true), (15, true), (16, true), (17, true), (18, true), (19, true), (20, true), (21, true), (23, true), (24, true), (22, false), (25, false), (26, true), (27, true), (28, true), (29, true), (30, true), (31, true), (32, true), (33, true), (34, true), (35, true), (36, true), (37, true), (38, true), (39, true), (40, false), (41, true), (42, true)] (by kernel_rfl) (by kernel_rfl) (by kernel_rfl) (fun _ _ d _ _ h => by cases d <;> exact h) (Below.refl _ _).drew ?_
        repeat (apply sched_take; (exact rfl); rfl; (intro W hW; obtain ⟨⟨p0, p1, p2, p3, p4, p5⟩, ⟨q0, q1, q2, q3, q4, q5⟩⟩ := HTC.out W hW; go_simp; (try with_reducible rfl)); simp only [Act.put, List.setIfInBounds_toArray, List.set_cons_zero, List.set_cons_succ])
        apply sched_run; (exact rfl); rfl; intro K hK; go_simp
        have hbd := (Below.refl wc.heap.size wc).drew
        refine (refBits_c xf _).mono ?_
        rintro e w1 ⟨rfl, rfl⟩
        refine hK.out _ _ hbd (fun _ => ?_)
        clear hK K
        try simp only [Act.put, List.setIfInBounds_toArray, List.set_cons_zero, List.set_cons_succ]
        apply sched_run; (exact rfl); rfl; intro K hK; go_simp
        refine (refBits_c yf _).mono ?_
        rintro e w1 ⟨rfl, rfl⟩
        rw [HBF.out]
        refine hK.out _ _ hbd (fun _ => ?_)
        clear hK K
        try simp only [Act.put, List.setIfInBounds_toArray, List.set_cons_zero, List.set_cons_succ]
        have eb : ((bitsF xf : Int) != (bitsF xf : Int)) = false := by simp
        repeat (apply sched_take; (exact rfl); rfl; (intro W hW; obtain ⟨⟨p0, p1, p2, p3, p4, p5⟩, ⟨q0, q1, q2, q3, q4, q5⟩⟩ := HTC.out W hW; go_simp; (try with_reducible rfl)); simp only [Act.put, List.setIfInBounds_toArray, List.set_cons_zero, List.set_cons_succ])
        apply sched_run; (exact rfl); rfl; intro K hK; go_simp
        refine (HIH.out xl yl xA yA xc yc _ HSX.out (HXL.out.below (hT.out.b.trans (hbd.mono hT.out.b.size))) (HYL.out.below (hT.out.b.trans (hbd.mono hT.out.b.size))) HSL.out).mono ?_
        rintro e w2 ⟨rfl, hb⟩
        have HB2 := Lib.hid (hbd.trans (hb.mono (show wc.heap.size ≤ _ from hbd.size)))
        clear hbd hb
        refine hK.out _ _ HB2.out (fun _ => ?_)
        clear hK K
        try simp only [Act.put, List.setIfInBounds_toArray, List.set_cons_zero, List.set_cons_succ]
        repeat (apply sched_take; (exact rfl); rfl; (intro W hW; go_simp; (try with_reducible rfl)); simp only [Act.put, List.setIfInBounds_toArray, List.set_cons_zero, List.set_cons_succ])
        refine sched_done ?_
        go_wp2
        go_roundw
        case measure => simp [intOf]; omega
        case rel =>
          exact ⟨k + 1, by omega, by go_num, Lib.hid (hB.out.trans ((hT.out.b.mono hB.out.size).trans (HB2.out.mono (Nat.le_trans hB.out.size hT.out.b.size))))⟩
    · go_wp2
      go_ret
      exact ⟨rfl, hB.out⟩

end Go.Proofs.YtonjgedhmmnolaaGreatDoor
end

section
namespace Go.Proofs.YtonjgedhmmnolaaGreatDoor
open Go.RowKit
set_option maxHeartbeats 1000000
set_option maxRecDepth 100000

/-- Rows that are alike. -/
structure SameR (a b : List (List ItemD)) : Prop where
  len : a.length = b.length
  hx : ∀ i (h1 : i < a.length) (h2 : i < b.length), SameL a[i] b[i]
theorem SameR.refl (a : List (List ItemD)) : SameR a a := ⟨rfl, fun _ _ _ => SameL.refl _⟩
theorem rowsD_at (R : List VI) (k : Nat) (h : k < R.length) : (rowsD R)[k]'(by rw [rowsD_len]; exact h) = VI.dataL R[k].l := by simp [rowsD]
theorem sameR_c (R S : List VI) (A B : Option Addr) (c d : Nat) (w : World) (hR : RdR w A c R) (hS : RdR w B d S) (hE : SameR (rowsD R) (rowsD S)) :
    Calls Tryz.prog 17 #[.slice A R.length c, .slice B S.length d] w fun e w' => e = .returned (.bool true) ∧ Below w.heap.size w w' := by
  have HR := Lib.hid hR
  have HS := Lib.hid hS
  have HE := Lib.hid hE
  have hlb := hR.hb
  have HLN := Lib.hid (show R.length = S.length by have := hE.len; rw [rowsD_len, rowsD_len] at this; exact this)
  rw [← HLN.out]
  have e0 : ((R.length : Int) != R.length) = false := by simp
  clear hR hS hE
  go_enter Tryz.func17, Tryz.ntmps17
  go_wp2
  go_loopw [5] (fun i wr => ∃ (k : Nat), k ≤ R.length ∧ i = .int .i64 k ∧ Hid (Below w.heap.size w wr)) (fun i _ => R.length - (intOf i).toNat)
  case atStart => exact ⟨0, Nat.zero_le _, rfl, Lib.hid (Below.refl _ _)⟩
  case round =>
    obtain ⟨k, hk, rfl, hB⟩ := hrel
    by_cases hlt : k < R.length
    · have HLr := Lib.hid (HR.out.below hB.out)
      have HMr := Lib.hid (HS.out.below hB.out)
      have hltm : k < S.length := by rw [← HLN.out]; exact hlt
      obtain ⟨ab, ao, rfl⟩ : ∃ ab ao, A = some ⟨ab, ao, none⟩ := by obtain ⟨b, o, e, _⟩ := HLr.out.rd.2 (by omega); exact ⟨b, o, e⟩
      obtain ⟨mb, mo, rfl⟩ : ∃ ab ao, B = some ⟨ab, ao, none⟩ := by obtain ⟨b, o, e, _⟩ := HMr.out.rd.2 (by omega); exact ⟨b, o, e⟩
      have HIT := Lib.hid (fun W (h : Below wr.heap.size wr W) => row_at (HLr.out.below h).rd hlt)
      have HIU := Lib.hid (fun W (h : Below wr.heap.size wr W) => row_at (HMr.out.below h).rd hltm)
      have HX := Lib.hid (HLr.out.hx _ (List.getElem_mem hlt))
      have HY := Lib.hid (HMr.out.hx _ (List.getElem_mem hltm))
      have HEK := Lib.hid (show SameL (VI.dataL R[k].l) (VI.dataL S[k].l) by
        have := HE.out.hx k (by rw [rowsD_len]; exact hlt) (by rw [rowsD_len]; exact hltm)
        rw [rowsD_at R k hlt, rowsD_at S k hltm] at this; exact this)
      obtain ⟨x, hx⟩ : ∃ x, R[k] = x := ⟨_, rfl⟩
      obtain ⟨y, hy⟩ : ∃ y, S[k] = y := ⟨_, rfl⟩
      simp only [hx] at HIT HX HEK
      simp only [hy] at HIU HY HEK
      clear hx hy hltm
      rcases x with ⟨xk, xb, xn, xf, xt, xA, xc, xl⟩
      rcases y with ⟨yk, yb, yn, yf, yt, yA, yc, yl⟩
      simp only [VI.A, VI.c, VI.l] at HIT HIU HEK
      have HXL := Lib.hid (show RdI wr xA xc xl from HX.out.list)
      have HYL := Lib.hid (show RdI wr yA yc yl from HY.out.list)
      go_wp2
      refine wp_region_sched (S := fun W => Below wr.heap.size wr W) [(0, true), (1, true), (2, true), (3, true), (4, true), (5, true), (6, true), (7, true), (8, false), (9, true)] (by kernel_rfl) (by kernel_rfl) (by kernel_rfl) (fun _ _ d _ _ h => by cases d <;> exact h) (Below.refl _ _).drew ?_
      repeat (apply sched_take; (exact rfl); rfl; (intro W hW; have p0 := HIT.out W hW; have q0 := HIU.out W hW; go_simp; (try with_reducible rfl)); simp only [Act.put, List.setIfInBounds_toArray, List.set_cons_zero, List.set_cons_succ])
      apply sched_run; (exact rfl); rfl; intro K hK; go_simp
      have hbd := (Below.refl wr.heap.size wr).drew
      refine (same_c _ xl yl xA yA xc yc _ (Nat.le_refl _) (HXL.out.below hbd) (HYL.out.below hbd) HEK.out).mono ?_
      rintro e w1 ⟨rfl, hb⟩
      have HB1 := Lib.hid (hbd.trans (hb.mono (show wr.heap.size ≤ _ from hbd.size)))
      clear hbd hb
      refine hK.out _ _ HB1.out (fun _ => ?_)
      clear hK K
      try simp only [Act.put, List.setIfInBounds_toArray, List.set_cons_zero, List.set_cons_succ]
      repeat (apply sched_take; (exact rfl); rfl; (intro W hW; go_simp; (try with_reducible rfl)); simp only [Act.put, List.setIfInBounds_toArray, List.set_cons_zero, List.set_cons_succ])
      refine sched_done ?_
      go_wp2
      exact ⟨⟨k + 1, by omega, by go_num, Lib.hid (hB.out.trans (HB1.out.mono hB.out.size))⟩, by simp [intOf]; omega⟩
    · go_wp2
      go_ret
      exact ⟨rfl, hB.out⟩
/-- The first so many of rows, or of them the other way round. -/
def cutD (down : Bool) (limit : Int) (rows : List (List ItemD)) : List (List ItemD) :=
  if limit = 0 then (if down = true then rows.reverse else rows) else (if down = true then rows.reverse else rows).take limit.toNat
def turnV (down : Bool) (R : List VI) : List VI := if down = true then R.reverse else R
theorem turnV_len (down : Bool) (R : List VI) : (turnV down R).length = R.length := by cases down <;> simp [turnV]
theorem turnV_at (down : Bool) (R : List VI) (k : Nat) (h : k < R.length) : (turnV down R)[k]'(by rw [turnV_len]; exact h) = R[if down = true then R.length - 1 - k else k]'(by split <;> omega) := by
  cases down <;> simp [turnV]
theorem turnV_data (down : Bool) (R : List VI) : rowsD (turnV down R) = if down = true then (rowsD R).reverse else rowsD R := by
  cases down <;> simp [turnV, rowsD]
theorem cut_add {V T : List VI} {k : Nat} {x : VI} {limit : Int} (hT : T = if limit = 0 then V.take k else (V.take k).take limit.toNat) (hk : V.take (k + 1) = V.take k ++ [x]) (ha : limit = 0 ∨ (T.length : Int) < limit) (hV : k < V.length) (hl : 0 ≤ limit) :
    T ++ [x] = if limit = 0 then V.take (k + 1) else (V.take (k + 1)).take limit.toNat := by
  by_cases h0 : limit = 0
  · rw [if_pos h0] at hT ⊢; rw [hk, hT]
  · rw [if_neg h0] at hT ⊢
    have h1 : (T.length : Int) < limit := by rcases ha with h | h; exact absurd h h0; exact h
    have h2 : T.length = min limit.toNat k := by rw [hT, List.length_take, List.length_take]; omega
    have h3 : k < limit.toNat := by omega
    rw [List.take_of_length_le (by rw [List.length_take]; omega)] at hT
    rw [List.take_of_length_le (by rw [List.length_take]; omega), hk, hT]
theorem cut_full {V T : List VI} {k : Nat} {x : VI} {limit : Int} (hT : T = if limit = 0 then V.take k else (V.take k).take limit.toNat) (hk : V.take (k + 1) = V.take k ++ [x]) (ha : ¬ (limit = 0 ∨ (T.length : Int) < limit)) :
    T = if limit = 0 then V.take (k + 1) else (V.take (k + 1)).take limit.toNat := by
  have h0 : ¬ limit = 0 := fun h => ha (.inl h)
  have h1 : ¬ (T.length : Int) < limit := fun h => ha (.inr h)
  rw [if_neg h0] at hT ⊢
  have h2 : limit.toNat ≤ (V.take k).length := by
    have : T.length = min limit.toNat (V.take k).length := by rw [hT, List.length_take]
    omega
  rw [hk, List.take_append_of_le_length h2]
  exact hT
theorem cut_c (R : List VI) (A : Option Addr) (c : Nat) (down : Bool) (limit : Int) (w : World) (hR : RdR w A c R) (hl : 0 ≤ limit) :
    Calls Tryz.prog 16 #[.slice A R.length c, .bool down, .int .i64 limit] w fun e w' => ∃ RO B d, e = .returned (.slice B RO.length d) ∧ RdR w' B d RO ∧ rowsD RO = cutD down limit (rowsD R) ∧ Below w.heap.size w w' := by
  have HR := Lib.hid hR
  have hlb := hR.hb
  clear hR
  have HCD := Lib.hid (show cutD down limit (rowsD R) = if limit = 0 then rowsD (turnV down R) else (rowsD (turnV down R)).take limit.toNat by rw [turnV_data]; rfl)
  have HTL := Lib.hid (turnV_len down R)
  go_enter Tryz.func16, Tryz.ntmps16
  go_wp2
  go_loopw [8, 7] (fun i v wr => ∃ (k : Nat) (T : List VI), k ≤ R.length ∧ i = .int .i64 k ∧ Hid (T.length ≤ k) ∧ Hid (T = if limit = 0 then (turnV down R).take k else ((turnV down R).take k).take limit.toNat) ∧ Hid (OwnR wr w.heap.size v T) ∧ Hid (Below w.heap.size w wr)) (fun i _ _ => R.length - (intOf i).toNat)
  case atStart => exact ⟨0, [], Nat.zero_le _, rfl, Lib.hid (Nat.le_refl _), Lib.hid (by simp), Lib.hid (OwnR.nil _ _), Lib.hid (Below.refl _ _)⟩
  case round =>
    obtain ⟨k, T, hk, rfl, hTk, hT, hO, hB⟩ := hrel
    obtain ⟨AT, cT, hv, hTR⟩ := hO.out.rdr (by have := hTk.out; omega)
    subst hv
    have HTR := Lib.hid hTR
    clear hTR
    by_cases hlt : k < R.length
    · have HRr := Lib.hid (HR.out.below hB.out)
      obtain ⟨ab, ao, rfl⟩ : ∃ ab ao, A = some ⟨ab, ao, none⟩ := by obtain ⟨b, o, e, _⟩ := HRr.out.rd.2 (by omega); exact ⟨b, o, e⟩
      obtain ⟨i, hi⟩ : ∃ i, (if down = true then R.length - 1 - k else k) = i := ⟨_, rfl⟩
      have hil : i < R.length := by rw [← hi]; split <;> omega
      have r0 := row_at HRr.out.rd hil
      have HX := Lib.hid (HR.out.hx _ (List.getElem_mem hil))
      have HTK := Lib.hid (show (turnV down R).take (k + 1) = (turnV down R).take k ++ [R[i]] by rw [List.take_succ_eq_append_getElem (by rw [turnV_len]; exact hlt), turnV_at down R k hlt]; simp only [hi])
      obtain ⟨x, hx⟩ : ∃ x, R[i] = x := ⟨_, rfl⟩
      simp only [hx] at r0 HX HTK
      clear hx
      rcases x with ⟨xk, xb, xn, xf, xt, xA, xc, xl⟩
      simp only [VI.A, VI.c, VI.l] at r0
      have HTT := Lib.hid (show (turnV down R).length = R.length from HTL.out)
      by_cases hadd : limit = 0 ∨ (T.length : Int) < limit
      · have HTN := Lib.hid (show T ++ [VI.mk xk xb xn xf xt xA xc xl] = if limit = 0 then (turnV down R).take (k + 1) else ((turnV down R).take (k + 1)).take limit.toNat from cut_add hT.out HTK.out hadd (by rw [HTT.out]; exact hlt) hl)
        cases down with
        | false =>
          have hie : k = i := by rw [← hi]; rfl
          clear hi
          subst hie
          by_cases h0 : limit = 0
          · have e1 : (limit == 0) = true := by simp [h0]
            clear hadd h0
            go_wp2_with (at_builtin; go_must (have HO5 := Lib.hid (hO.out.below ((Below.refl _ _).alloc (Nat.le_refl _) (.cells #[.slice xA xl.length xc] 28))); refine wpList_rows (B := w.heap.size) (R := T) (ys := [VI.mk xk xb xn xf xt xA xc xl]) rfl (.tmp 31) (.tmp 36) rfl HO5.out rfl rfl (rd_row wr xA xc xl rfl) rfl (by intro y hy; obtain rfl : y = VI.mk xk xb xn xf xt xA xc xl := (by simpa using hy); exact (HX.out.grow hB.out).grow ((Below.refl _ _).alloc (Nat.le_refl _) _)) (by intro y hy; obtain rfl : y = VI.mk xk xb xn xf xt xA xc xl := (by simpa using hy); exact HX.out.blk.mono fun j hj e => by have h2 := (hO.out.own.lt j e).1; omega) (by have := hTk.out; omega) (Nat.le_trans hB.out.size (by simp)) ?_; intro v2 w4 hO2 hK2 _; have HO2 := Lib.hid hO2; have HK2 := Lib.hid (hK2.belowOwn HO5.out.own (Nat.le_trans hB.out.size (by simp))); clear hO2 hK2))
            exact ⟨⟨k + 1, _, by omega, by go_num, Lib.hid (by rw [List.length_append]; have := hTk.out; simp; omega), HTN, HO2, Lib.hid ((hB.out.alloc hB.out.size _).trans HK2.out)⟩, by simp [intOf]; omega⟩
          · have hlt2 : (T.length : Int) < limit := by omega
            have e1 : (limit == 0) = false := by simp [h0]
            clear hadd h0
            go_wp2_with (at_builtin; go_must (have HO5 := Lib.hid (hO.out.below ((Below.refl _ _).alloc (Nat.le_refl _) (.cells #[.slice xA xl.length xc] 28))); refine wpList_rows (B := w.heap.size) (R := T) (ys := [VI.mk xk xb xn xf xt xA xc xl]) rfl (.tmp 31) (.tmp 36) rfl HO5.out rfl rfl (rd_row wr xA xc xl rfl) rfl (by intro y hy; obtain rfl : y = VI.mk xk xb xn xf xt xA xc xl := (by simpa using hy); exact (HX.out.grow hB.out).grow ((Below.refl _ _).alloc (Nat.le_refl _) _)) (by intro y hy; obtain rfl : y = VI.mk xk xb xn xf xt xA xc xl := (by simpa using hy); exact HX.out.blk.mono fun j hj e => by have h2 := (hO.out.own.lt j e).1; omega) (by have := hTk.out; omega) (Nat.le_trans hB.out.size (by simp)) ?_; intro v2 w4 hO2 hK2 _; have HO2 := Lib.hid hO2; have HK2 := Lib.hid (hK2.belowOwn HO5.out.own (Nat.le_trans hB.out.size (by simp))); clear hO2 hK2))
            exact ⟨⟨k + 1, _, by omega, by go_num, Lib.hid (by rw [List.length_append]; have := hTk.out; simp; omega), HTN, HO2, Lib.hid ((hB.out.alloc hB.out.size _).trans HK2.out)⟩, by simp [intOf]; omega⟩
        | true =>
          have hie : i = R.length - 1 - k := by rw [← hi]; rfl
          have hie2 : (R.length : Int) - 1 - k = (i : Int) := by omega
          clear hi hie
          by_cases h0 : limit = 0
          · have e1 : (limit == 0) = true := by simp [h0]
            clear hadd h0
            go_wp2_with (at_builtin; go_must (have HO5 := Lib.hid (hO.out.below ((Below.refl _ _).alloc (Nat.le_refl _) (.cells #[.slice xA xl.length xc] 28))); refine wpList_rows (B := w.heap.size) (R := T) (ys := [VI.mk xk xb xn xf xt xA xc xl]) rfl (.tmp 31) (.tmp 36) rfl HO5.out rfl rfl (rd_row wr xA xc xl rfl) rfl (by intro y hy; obtain rfl : y = VI.mk xk xb xn xf xt xA xc xl := (by simpa using hy); exact (HX.out.grow hB.out).grow ((Below.refl _ _).alloc (Nat.le_refl _) _)) (by intro y hy; obtain rfl : y = VI.mk xk xb xn xf xt xA xc xl := (by simpa using hy); exact HX.out.blk.mono fun j hj e => by have h2 := (hO.out.own.lt j e).1; omega) (by have := hTk.out; omega) (Nat.le_trans hB.out.size (by simp)) ?_; intro v2 w4 hO2 hK2 _; have HO2 := Lib.hid hO2; have HK2 := Lib.hid (hK2.belowOwn HO5.out.own (Nat.le_trans hB.out.size (by simp))); clear hO2 hK2))
            exact ⟨⟨k + 1, _, by omega, by go_num, Lib.hid (by rw [List.length_append]; have := hTk.out; simp; omega), HTN, HO2, Lib.hid ((hB.out.alloc hB.out.size _).trans HK2.out)⟩, by simp [intOf]; omega⟩
          · have hlt2 : (T.length : Int) < limit := by omega
            have e1 : (limit == 0) = false := by simp [h0]
            clear hadd h0
            go_wp2_with (at_builtin; go_must (have HO5 := Lib.hid (hO.out.below ((Below.refl _ _).alloc (Nat.le_refl _) (.cells #[.slice xA xl.length xc] 28))); refine wpList_rows (B := w.heap.size) (R := T) (ys := [VI.mk xk xb xn xf xt xA xc xl]) rfl (.tmp 31) (.tmp 36) rfl HO5.out rfl rfl (rd_row wr xA xc xl rfl) rfl (by intro y hy; obtain rfl : y = VI.mk xk xb xn xf xt xA xc xl := (by simpa using hy); exact (HX.out.grow hB.out).grow ((Below.refl _ _).alloc (Nat.le_refl _) _)) (by intro y hy; obtain rfl : y = VI.mk xk xb xn xf xt xA xc xl := (by simpa using hy); exact HX.out.blk.mono fun j hj e => by have h2 := (hO.out.own.lt j e).1; omega) (by have := hTk.out; omega) (Nat.le_trans hB.out.size (by simp)) ?_; intro v2 w4 hO2 hK2 _; have HO2 := Lib.hid hO2; have HK2 := Lib.hid (hK2.belowOwn HO5.out.own (Nat.le_trans hB.out.size (by simp))); clear hO2 hK2))
            exact ⟨⟨k + 1, _, by omega, by go_num, Lib.hid (by rw [List.length_append]; have := hTk.out; simp; omega), HTN, HO2, Lib.hid ((hB.out.alloc hB.out.size _).trans HK2.out)⟩, by simp [intOf]; omega⟩
      · have HTN := Lib.hid (show T = if limit = 0 then (turnV down R).take (k + 1) else ((turnV down R).take (k + 1)).take limit.toNat from cut_full hT.out HTK.out hadd)
        have h0 : ¬ limit = 0 := fun h => hadd (.inl h)
        have hlt2 : limit ≤ (T.length : Int) := by omega
        have e1 : (limit == 0) = false := by simp [h0]
        clear hadd h0 hi
        cases down with
        | false =>
          go_wp2
          exact ⟨⟨k + 1, T, by omega, by go_num, Lib.hid (by have := hTk.out; omega), HTN, hO, hB⟩, by simp [intOf]; omega⟩
        | true =>
          go_wp2
          exact ⟨⟨k + 1, T, by omega, by go_num, Lib.hid (by have := hTk.out; omega), HTN, hO, hB⟩, by simp [intOf]; omega⟩
    · have HTA := Lib.hid (show (turnV down R).take k = turnV down R from List.take_of_length_le (by rw [HTL.out]; omega))
      go_wp2
      go_ret
      exact ⟨T, AT, cT, rfl, HTR.out, by rw [HCD.out, hT.out, HTA.out]; split <;> simp [rowsD], hB.out⟩

end Go.Proofs.YtonjgedhmmnolaaGreatDoor
end

section
namespace Go.Proofs.YtonjgedhmmnolaaGreatDoor
open Go.RowKit
set_option maxHeartbeats 1000000
set_option maxRecDepth 100000

/-- A law's input, as it lies in memory. -/
structure InV where
  pg : Int
  wd : Int
  t : TabD
  A : Option Addr
  c : Nat
  q : QryV
  P : List (ByteArray × ByteArray)
  AP : Option Addr
  cP : Nat
  AR : Option Addr
  nR : Nat
  cR : Nat
  pf : ByteArray
def InV.val (x : InV) : Value := .agg (#[.int .i64 x.pg, .int .i64 x.wd, .string x.t.name, .slice x.A x.t.cols.length x.c, .int .i64 x.t.keys] ++ x.q.cells ++ #[.slice x.AP x.P.length x.cP, .slice x.AR x.nR x.cR, .string x.pf])
structure RdX (w : World) (x : InV) : Prop where
  t : RdT w x.A x.c x.t
  q : RdQ w x.q
  p : RdP w x.AP x.cP x.P
theorem RdX.below {w w' : World} {x : InV} (h : RdX w x) (hb : Below w.heap.size w w') : RdX w' x := ⟨h.t.below hb, h.q.below hb, h.p.below hb⟩
/-- The plain question: no columns, order, limit or fold. -/
def QryV.plain (q : QryV) : QryV := ⟨q.table, q.fr, q.tt, q.wh, [], false, 0, 0, ⟨#[]⟩, q.AF, q.cF, q.AT, q.cT, q.AW, q.cW, none, 0⟩
theorem RdQ.plain {w : World} {q : QryV} (h : RdQ w q) : RdQ w q.plain :=
  ⟨h.fr, h.tt, h.wh, h.wc, h.wb, h.wx, .none_, Nat.le_refl _, by show 0 * 16 ≤ 140737488355328; decide, (by intro x hx; simp [QryV.plain] at hx), h.nt, by show (0 : Nat) ≤ 140737488355328; decide, by show -9223372036854775808 ≤ (0 : Int) ∧ (0 : Int) ≤ 9223372036854775807; decide, by show (0 : Int) ≤ 0 ∧ (0 : Int) ≤ 255; decide⟩
def AllEnd (x : InV) (w : World) (e : Ending) (w' : World) : Prop :=
  ∃ (RO : List VI) (B : Option Addr) (d n : Nat), e = .returned (.tuple #[.slice B RO.length d, .bool ((n : Int) == 0)]) ∧ PickOk x.pg x.wd x.t x.q.plain x.P (rowsD RO) n ∧ RdR w' B d RO ∧ Below w.heap.size w w'
theorem all_c (x : InV) (w : World) (hX : RdX w x) (hc : ∃ m, w.cell? ⟨1, 0, none⟩ = some (.int .i64 m)) : Calls Tryz.prog 14 #[x.val] w (AllEnd x w) := by
  have HT := Lib.hid hX.t
  have HQ := Lib.hid hX.q
  have HP := Lib.hid hX.p
  have HC := Lib.hid hc
  rcases x with ⟨pg, wd, ⟨tn, cols, keys⟩, A, c, ⟨qt, fr, tt, wh, qc, qd, ql, qf, qo, AF, cF, AT, cT, AW, cW, AC, cC⟩, P, AP, cP, AR, nR, cR, pf⟩
  rw [show InV.val ⟨pg, wd, ⟨tn, cols, keys⟩, A, c, ⟨qt, fr, tt, wh, qc, qd, ql, qf, qo, AF, cF, AT, cT, AW, cW, AC, cC⟩, P, AP, cP, AR, nR, cR, pf⟩ = .agg #[.int .i64 pg, .int .i64 wd, .string tn, .slice A cols.length c, .int .i64 keys, .string qt, .slice AF fr.length cF, .slice AT tt.length cT, .slice AW wh.length cW, .slice AC qc.length cC, .bool qd, .int .i64 ql, .int .u8 qf, .string qo, .slice AP P.length cP, .slice AR nR cR, .string pf] from rfl]
  simp only at HT HQ HP
  have HB := Lib.hid (fun a b => two_below w a b)
  clear hX hc
  go_enter Tryz.func14, Tryz.ntmps14
  go_wp2_with (go_at_call 15; go_must (refine (Pick_c pg wd A c ⟨tn, cols, keys⟩ (QryV.plain ⟨qt, fr, tt, wh, qc, qd, ql, qf, qo, AF, cF, AT, cT, AW, cW, AC, cC⟩) AP cP P _ (HT.out.below (HB.out _ _)) (RdQ.plain (HQ.out.below (HB.out _ _))) (HP.out.below (HB.out _ _)) (cell_keep HC.out (Nat.le_refl _) (HB.out _ _)) (fun h => absurd h (by show ¬ (2 : Int) ≤ 0; decide)) (by show 0 * 64 ≤ 140737488355328; decide)).mono ?_; rintro e w1 ⟨RO, B, d, n, rfl, hok, hrd, hb⟩; have HOK := Lib.hid hok; have HRD := Lib.hid hrd; have HB1 := Lib.hid hb; clear hok hrd hb))
  go_ret2
  exact ⟨RO, B, d, n, rfl, HOK.out, HRD.out, (HB.out _ _).trans (HB1.out.mono (HB.out _ _).size)⟩

end Go.Proofs.YtonjgedhmmnolaaGreatDoor
end

section
namespace Go.Proofs.YtonjgedhmmnolaaGreatDoor
open Go.RowKit
set_option maxHeartbeats 1000000
set_option maxRecDepth 100000

section
variable {pg wd : Int} {t : TabD} {q q' : QryV} {P : List (ByteArray × ByteArray)} {lo hi : List UInt8}
theorem rowsA_err {acc : List (List ItemD)} {l : List (ByteArray × ByteArray)} {m : Nat} (h : rowsA pg wd t lo hi acc l = (none, m)) : m ≠ 0 := by
  induction l generalizing acc with
  | nil => rw [rowsA] at h; injection h with h1; cases h1
  | cons p l ih =>
    rw [rowsA] at h
    split at h
    · exact ih h
    · split at h
      · next hr =>
        injection h with _ h2
        rw [← h2]
        exact rowR_err hr
      · exact ih h
theorem chkQ_mk (h1 : chkT pg wd t = 0) (h2 : q.table.data.toList = t.name.data.toList) (h3 : (bndR pg wd t (VI.dataL q.fr)).2.2 = 0) (h4 : (bndR pg wd t (VI.dataL q.tt)).2.2 = 0) (h5 : namedB t q = true) (h6 : (q.wh.all condB) = true) (h7 : foldsB t q = true) (h8 : 0 ≤ q.limit) : chkQ pg wd t q = 0 := by
  unfold chkQ
  rw [if_neg (by omega), if_neg (by simp [h2]), if_neg (by omega), if_neg (by omega), if_neg (by simp [h5]), if_neg (by simp [h6]), if_neg (by simp [h7]), if_neg (by omega)]
theorem spanR_same (h : chkQ pg wd t q = 0) (h' : chkQ pg wd t q' = 0) (hf : q'.fr = q.fr) (ht : q'.tt = q.tt) : spanR pg wd t q' = spanR pg wd t q := by
  unfold spanR
  have a : ¬ chkQ pg wd t q' ≠ 0 := by omega
  have b : ¬ chkQ pg wd t q ≠ 0 := by omega
  rw [hf, ht, if_neg a, if_neg b]
theorem spanR_zero (h : chkQ pg wd t q = 0) : (spanR pg wd t q).2.2 = 0 := by
  unfold spanR
  rw [if_neg (by omega)]
/-- What a question that went well is made of. -/
theorem pick_ok {out : List (List ItemD)} (h : PickOk pg wd t q P out 0) (hfo : q.fold = 0) (hco : q.cols = []) :
    chkQ pg wd t q = 0 ∧ ∃ rows m, rowsA pg wd t (spanR pg wd t q).1 (spanR pg wd t q).2.1 [] P = (some rows, m) ∧ out = keptD t q (if q.down = true then rows.reverse else rows) := by
  unfold PickOk at h
  by_cases h0 : (spanR pg wd t q).2.2 ≠ 0
  · rw [if_pos h0] at h; exact absurd h.2.symm h0
  · rw [if_neg h0] at h
    refine ⟨spanR_ok (by omega), ?_⟩
    cases hr : rowsA pg wd t (spanR pg wd t q).1 (spanR pg wd t q).2.1 [] P with
    | mk o m =>
      rw [hr] at h
      cases o with
      | none => exact absurd h.2.symm (rowsA_err hr)
      | some rows =>
        refine ⟨rows, m, rfl, ?_⟩
        simp only at h
        rw [ComeOk, if_neg (by omega), if_neg (by omega), if_pos hco] at h
        exact h.2
theorem pick_use (hc : chkQ pg wd t q' = 0) (hq : chkQ pg wd t q = 0) (hf : q'.fr = q.fr) (ht : q'.tt = q.tt) {rows : List (List ItemD)} {m : Nat} (hr : rowsA pg wd t (spanR pg wd t q).1 (spanR pg wd t q).2.1 [] P = (some rows, m)) {out : List (List ItemD)} {n : Nat} (h : PickOk pg wd t q' P out n) :
    ComeOk t q' (keptD t q' (if q'.down = true then rows.reverse else rows)) out n := by
  unfold PickOk at h
  rw [if_neg (by rw [spanR_zero hc]; decide), spanR_same hq hc hf ht, hr] at h
  exact h
end
/-- A question without columns, with a fold of its own. -/
def QryV.bare (q : QryV) (fold : Int) (over : ByteArray) : QryV := ⟨q.table, q.fr, q.tt, q.wh, [], q.down, q.limit, fold, over, q.AF, q.cF, q.AT, q.cT, q.AW, q.cW, none, 0⟩
/-- The plain question with one condition less. -/
def QryV.less (q : QryV) : QryV := ⟨q.table, q.fr, q.tt, q.wh.take (q.wh.length - 1), q.cols, q.down, q.limit, q.fold, q.over, q.AF, q.cF, q.AT, q.cT, q.AW, q.cW, q.AC, q.cC⟩
section
variable {pg wd : Int} {t : TabD} {q : QryV} {P : List (ByteArray × ByteArray)} {out0 : List (List ItemD)}
theorem named_wh {q : QryV} (h : namedB t q = true) : (q.wh.all fun c => decide (0 ≤ findC t c.col)) = true := by
  unfold namedB at h
  rw [Bool.and_eq_true, Bool.and_eq_true] at h
  exact h.1.1
theorem named_mk {q : QryV} (h : (q.wh.all fun c => decide (0 ≤ findC t c.col)) = true) (hc : q.cols = []) (hf : q.fold = 0 ∨ q.fold = 1 ∨ 0 ≤ findC t q.over) : namedB t q = true := by
  unfold namedB
  rw [h, hc]
  rcases hf with hf | hf | hf <;> simp [hf]
/-- Order and limit cut the plain question's rows. -/
theorem turns_cut (h0 : PickOk pg wd t q.plain P out0 0) (hl : 0 ≤ q.limit) {out : List (List ItemD)} {n : Nat} (h : PickOk pg wd t (q.bare 0 ⟨#[]⟩) P out n) : n = 0 ∧ out = cutD q.down q.limit out0 := by
  obtain ⟨hc, rows, m, hr, ho⟩ := pick_ok h0 rfl rfl
  obtain ⟨k1, k2, k3, k4, k5, k6, k7, k8⟩ := chkQ_ok hc
  have hc1 : chkQ pg wd t (q.bare 0 ⟨#[]⟩) = 0 := chkQ_mk k1 k2 k3 k4 (named_mk (named_wh k5) rfl (.inl rfl)) k6 k7 hl
  have h1 := pick_use hc1 hc rfl rfl hr h
  rw [ComeOk, if_neg (by show ¬ (0 : Int) = 1; decide), if_neg (by show ¬ (0 : Int) ≠ 0; decide), if_pos (show (q.bare 0 ⟨#[]⟩).cols = [] from rfl)] at h1
  refine ⟨h1.1, h1.2.trans ?_⟩
  have ho' : out0 = rows.filter (keepD t q.wh) := ho
  rw [ho', cutD]
  show keptD t (q.bare 0 ⟨#[]⟩) (if q.down = true then rows.reverse else rows) = _
  unfold keptD
  show (if 0 < q.limit then _ else _) = _
  have e : (if q.down = true then (rows.filter (keepD t q.wh)).reverse else rows.filter (keepD t q.wh)) = (if q.down = true then rows.reverse else rows).filter (keepD t q.wh) := by
    cases q.down <;> simp [List.filter_reverse]
  rw [e]
  by_cases hz : q.limit = 0
  · rw [if_pos hz, if_neg (by omega)]; rfl
  · rw [if_neg hz, if_pos (by omega)]; rfl
/-- A count is how many there are. -/
theorem turns_count (h0 : PickOk pg wd t q.plain P out0 0) (hl : 0 ≤ q.limit) {out : List (List ItemD)} {n : Nat} (h : PickOk pg wd t (q.bare 1 ⟨#[]⟩) P out n) : n = 0 ∧ out = [[(intV (cutD q.down q.limit out0).length).data]] := by
  obtain ⟨hc, rows, m, hr, ho⟩ := pick_ok h0 rfl rfl
  obtain ⟨k1, k2, k3, k4, k5, k6, k7, k8⟩ := chkQ_ok hc
  have hf1 : foldsB t (q.bare 1 ⟨#[]⟩) = true := by
    unfold foldsB
    rw [if_neg (by show ¬ (1 : Int) = 0; decide), if_pos (by rfl)]
    rfl
  have hc1 : chkQ pg wd t (q.bare 1 ⟨#[]⟩) = 0 := chkQ_mk k1 k2 k3 k4 (named_mk (named_wh k5) rfl (.inr (.inl rfl))) k6 hf1 hl
  have h1 := pick_use hc1 hc rfl rfl hr h
  rw [ComeOk, if_pos (show (q.bare 1 ⟨#[]⟩).fold = 1 from rfl)] at h1
  refine ⟨h1.1, h1.2.trans ?_⟩
  have ho' : out0 = rows.filter (keepD t q.wh) := ho
  have e : keptD t (q.bare 1 ⟨#[]⟩) (if (q.bare 1 ⟨#[]⟩).down = true then rows.reverse else rows) = cutD q.down q.limit out0 := by
    rw [ho', cutD]
    show keptD t (q.bare 1 ⟨#[]⟩) (if q.down = true then rows.reverse else rows) = _
    unfold keptD
    show (if 0 < q.limit then _ else _) = _
    have e : (if q.down = true then (rows.filter (keepD t q.wh)).reverse else rows.filter (keepD t q.wh)) = (if q.down = true then rows.reverse else rows).filter (keepD t q.wh) := by
      cases q.down <;> simp [List.filter_reverse]
    rw [e]
    by_cases hz : q.limit = 0
    · rw [if_pos hz, if_neg (by omega)]; rfl
    · rw [if_neg hz, if_pos (by omega)]; rfl
  rw [e]
/-- A condition more leaves no more. -/
theorem turns_less (h0 : PickOk pg wd t q.plain P out0 0) {out : List (List ItemD)} {n : Nat} (h : PickOk pg wd t q.less.plain P out n) : n = 0 ∧ out0.length ≤ out.length := by
  obtain ⟨hc, rows, m, hr, ho⟩ := pick_ok h0 rfl rfl
  obtain ⟨k1, k2, k3, k4, k5, k6, k7, k8⟩ := chkQ_ok hc
  have hs : ∀ c ∈ q.wh.take (q.wh.length - 1), c ∈ q.wh := fun c hc => List.mem_of_mem_take hc
  have h5 := named_wh k5
  rw [List.all_eq_true] at h5 k6
  have hc1 : chkQ pg wd t q.less.plain = 0 := chkQ_mk k1 k2 k3 k4 (named_mk (List.all_eq_true.2 fun c hc => h5 c (hs c hc)) rfl (.inl rfl)) (List.all_eq_true.2 fun c hc => k6 c (hs c hc)) k7 (Int.le_refl _)
  have h1 := pick_use hc1 hc rfl rfl hr h
  rw [ComeOk, if_neg (by show ¬ (0 : Int) = 1; decide), if_neg (by show ¬ (0 : Int) ≠ 0; decide), if_pos (show q.less.plain.cols = [] from rfl)] at h1
  refine ⟨h1.1, ?_⟩
  have ho' : out0 = rows.filter (keepD t q.wh) := ho
  have h2 : out = rows.filter (keepD t (q.wh.take (q.wh.length - 1))) := h1.2
  rw [ho', h2]
  have himp : ∀ r, keepD t q.wh r = true → keepD t (q.wh.take (q.wh.length - 1)) r = true := by
    intro r hk
    unfold keepD at hk ⊢
    rw [List.all_eq_true] at hk ⊢
    exact fun c hc => hk c (hs c hc)
  clear hr ho ho' h2 h1 h h0
  induction rows with
  | nil => simp
  | cons r rows ih =>
    simp only [List.filter_cons]
    by_cases hk : keepD t q.wh r = true
    · rw [if_pos hk, if_pos (himp r hk)]; simpa using ih
    · rw [if_neg hk]
      split
      · simp only [List.length_cons]; omega
      · exact ih
/-- The same question again. -/
theorem turns_again (h0 : PickOk pg wd t q.plain P out0 0) {out : List (List ItemD)} {n : Nat} (h : PickOk pg wd t q.plain P out n) : n = 0 ∧ out = out0 := by
  obtain ⟨hc, rows, m, hr, ho⟩ := pick_ok h0 rfl rfl
  have h1 := pick_use hc hc rfl rfl hr h
  rw [ComeOk, if_neg (by show ¬ (0 : Int) = 1; decide), if_neg (by show ¬ (0 : Int) ≠ 0; decide), if_pos (show q.plain.cols = [] from rfl)] at h1
  exact ⟨h1.1, h1.2.trans ho.symm⟩
end

end Go.Proofs.YtonjgedhmmnolaaGreatDoor
end
