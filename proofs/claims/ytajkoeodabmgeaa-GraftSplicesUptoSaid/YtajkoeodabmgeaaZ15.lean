import Derived.Test.YtajkoeodabmgeaaZ11
import Derived.Test.YtajkoeodabmgeaaZ7
import Derived.Test.YtajkoeodabmgeaaZ3
import Derived.Test.YtajkoeodabmgeaaZ6
import Derived.Test.YtajkoeodabmgeaaU6
import Derived.Test.YtajkoeodabmgeaaZ9

section
namespace Go.Proofs.Ytajkoeodabmgeaa
open Go.RowKit
set_option maxHeartbeats 4000000
set_option maxRecDepth 100000
attribute [local go_sem] grow_cell grow_frozen grow_size

abbrev cutW (w : World) (a b c : Value) : World := ((w.alloc (.cells #[a, b, c] 29)).alloc (.cells zero7 54)).alloc (.cells zero7 54)
section
variable {w w1 w2 : World} {a b c : Value}
theorem cut_start : Below (w.heap.size + 1 + 1) (cutW w a b c) (cutW w a b c) := Below.refl _ _
theorem cut_size (h : Below (w.heap.size + 1 + 1) (cutW w a b c) w1) : w.heap.size + 1 + 1 + 1 ≤ w1.heap.size := by
  have := h.size; simpa [cutW] using this
theorem cut_next (h : Below (w.heap.size + 1 + 1) (cutW w a b c) w1) (hb : Below w1.heap.size w1 w2) : Below (w.heap.size + 1 + 1) (cutW w a b c) w2 := h.trans (hb.mono (by have := cut_size h; omega))
theorem cut_base : Below w.heap.size w (cutW w a b c) :=
  ((((Below.refl _ _).alloc (Nat.le_refl _) _).alloc (by simp) _).alloc (by simp <;> omega) _)
theorem cut_below (h : Below (w.heap.size + 1 + 1) (cutW w a b c) w1) : Below w.heap.size w w1 := cut_base.trans (h.mono (by omega))
theorem cut_new : (cutW w a b c).heap[w.heap.size + 1 + 1]? = some (.cells zero7 54 (0, 0)) := by
  have := heap_alloc_new ((w.alloc (.cells #[a, b, c] 29)).alloc (.cells zero7 54)) (.cells zero7 54)
  simpa using this
theorem cut_row (h : Below (w.heap.size + 1 + 1) (cutW w a b c) w1) : w1.heap[w.heap.size + 1]? = some (.cells zero7 54 (0, 0)) := (h.block _ (by omega)).trans (alloc3_1 w _ _ _)
theorem cut_node (h : Below (w.heap.size + 1 + 1) (cutW w a b c) w1) :
    w1.cell? ⟨w.heap.size, 0, none⟩ = some a ∧ w1.cell? ⟨w.heap.size, 1, none⟩ = some b ∧ w1.cell? ⟨w.heap.size, 2, none⟩ = some c := by
  have h0 : w1.heap[w.heap.size]? = some (.cells #[a, b, c] 29 (0, 0)) := (h.block _ (by omega)).trans (alloc3_0 w _ _ _)
  exact ⟨cell_of_row _ _ 0 _ _ _ h0, cell_of_row _ _ 1 _ _ _ h0, cell_of_row _ _ 2 _ _ _ h0⟩
end
theorem own_setRow_other {w : World} {base : Nat} {e t : TypeId} {size n g : Nat} {v : Value} {xs : List Value} {cs : Array Value} {fr : Nat × Nat} (h : w.ownsRow base e size v n xs) (hg : w.heap[g]? = some (.cells cs t fr)) (he : e ≠ t) (cs' : Array Value) : (w.setRow g cs').ownsRow base e size v n xs :=
  own_kept (S := fun k => k = g) h ⟨rfl, rfl, rfl, by simp [World.setRow], fun k _ hs => setRow_other _ _ _ _ hs⟩ (fun k hk hs => own_ne_block h hg he (hs ▸ hk))
theorem leaf_own {w : World} {lo lo0 : Nat} {A : Option Addr} {c : Nat} (l : List PairD) (hlo : lo0 ≤ lo) (hb : l.length * 32 ≤ 140737488355328) (hpk : ∀ q ∈ l, q.k.size ≤ 140737488355328 ∧ q.v.size ≤ 140737488355328)
    (h : w.ownsRow lo 31 2 (.slice A l.length c) l.length (pcells l)) : OwN w lo0 w.heap.size A c none 0 none 0 ⟨l, [], []⟩ := (OwN.leaf h (Nat.le_refl _) hb hpk).wide hlo (Nat.le_refl _)
theorem own7r (a b c d e f : Option Addr) (n0 c0 n1 c1 n2 c2 n3 c3 n4 c4 n5 c5 : Nat) (s : ByteArray) : (#[.slice a n0 c0, .slice b n1 c1, .slice c n2 c2, .string s, .slice d n3 c3, .slice e n4 c4, .slice f n5 c5] : Array Value).all (·.oneCell') = true := by simp [Value.oneCell']
theorem pairs_at1 {w : World} {b o : Nat} {l : List PairD} (h : Rd w 2 (some ⟨b, o, none⟩) l.length (pcells l)) {k : Nat} (hk : k < l.length) : w.cell? ⟨b, o + k * 2, none⟩ = some (.string l[k].k) := by
  obtain ⟨b', o', e, hc, _⟩ := pairs_at h hk
  cases e; exact hc
theorem box7s {w : World} {g : Nat} {a b c d e f h : Value} {fr : Nat × Nat} (hg : w.heap[g]? = some (.cells #[a, b, c, d, e, f, h] 54 fr)) :
    w.cell? ⟨g, 0, none⟩ = some a ∧ w.cell? ⟨g, 1, none⟩ = some b ∧ w.cell? ⟨g, 2, none⟩ = some c ∧ w.cell? ⟨g, 3, none⟩ = some d ∧ w.cell? ⟨g, 4, none⟩ = some e ∧ w.cell? ⟨g, 5, none⟩ = some f ∧ w.cell? ⟨g, 6, none⟩ = some h :=
  ⟨cell_of_row _ _ 0 _ _ _ hg, cell_of_row _ _ 1 _ _ _ hg, cell_of_row _ _ 2 _ _ _ hg, cell_of_row _ _ 3 _ _ _ hg, cell_of_row _ _ 4 _ _ _ hg, cell_of_row _ _ 5 _ _ _ hg, cell_of_row _ _ 6 _ _ _ hg⟩
theorem box7f {w : World} {g : Nat} {a b c d e f h : Value} (hg : w.heap[g]? = some (.cells #[a, b, c, d, e, f, h] 54 (0, 0))) :
    w.frozen? ⟨g, 0, none⟩ = false ∧ w.frozen? ⟨g, 1, none⟩ = false ∧ w.frozen? ⟨g, 2, none⟩ = false ∧ w.frozen? ⟨g, 3, none⟩ = false ∧ w.frozen? ⟨g, 4, none⟩ = false ∧ w.frozen? ⟨g, 5, none⟩ = false ∧ w.frozen? ⟨g, 6, none⟩ = false :=
  ⟨frozen_of_row _ _ _ _ _ hg, frozen_of_row _ _ _ _ _ hg, frozen_of_row _ _ _ _ _ hg, frozen_of_row _ _ _ _ _ hg, frozen_of_row _ _ _ _ _ hg, frozen_of_row _ _ _ _ _ hg, frozen_of_row _ _ _ _ _ hg⟩

theorem refCut_leaf (A0 A1 A2 : Option Addr) (c0 c1 c2 : Nat) (nd : NodeD) (j : Nat) (w : World) (hN : RdN w A0 c0 A1 c1 A2 c2 nd) (hl : leafD nd) (h2 : j + 1 < nd.pairs.length) :
    Calls Try.prog 71 #[vN A0 c0 A1 c1 A2 c2 nd, .int .i64 ((j + 1 : Nat) : Int)] w fun e w' =>
      (∃ x y : VH, e = .returned (vH x (halvesL nd (j + 1)) (halvesS nd (j + 1)) y (halvesR nd (j + 1))) ∧ VH.own x w' w.heap.size w'.heap.size (halvesL nd (j + 1)) ∧ VH.own y w' w.heap.size w'.heap.size (halvesR nd (j + 1))) ∧ Below w.heap.size w w' := by
  have HN := Lib.hid hN
  have HL := Lib.hid hl
  have hp := hN.hp
  have hcp := hN.hcp
  have hp1 : (j + 1) * 32 ≤ 140737488355328 := Nat.le_trans (Nat.mul_le_mul_right _ (by omega)) hp
  have hp2 : (nd.pairs.length - (j + 1)) * 32 ≤ 140737488355328 := Nat.le_trans (Nat.mul_le_mul_right _ (by omega)) hp
  have hjc : 0 ≤ (j : Int) + 1 ∧ (j : Int) + 1 ≤ (c0 : Int) := by omega
  have HP1 := Lib.hid hp1
  have HP2 := Lib.hid hp2
  obtain ⟨AX, hsl, hsr⟩ := slice_from (P := Try.prog) 25 2 elem25 sizeP A0 nd.pairs.length c0 (j + 1) ((j : Int) + 1) (by omega) (by omega) hcp
  have HSR := Lib.hid hsr
  have HLf : Hid (decide (nd.seps.length = 0 ∧ nd.kids.length = 0) = true) := Lib.hid (decide_eq_true hl)
  obtain ⟨LT, hLT⟩ : ∃ LT, nd.pairs.take (j + 1) = LT := ⟨_, rfl⟩
  obtain ⟨LD, hLD⟩ : ∃ LD, nd.pairs.drop (j + 1) = LD := ⟨_, rfl⟩
  have hlt : LT.length = j + 1 := by rw [← hLT, List.length_take]; omega
  have hld : LD.length = nd.pairs.length - (j + 1) := by rw [← hLD, List.length_drop]
  have HLT := Lib.hid hLT
  have HLD := Lib.hid hLD
  have HTL := Lib.hid hlt
  have HDL := Lib.hid hld
  obtain ⟨ab, ao, hA0⟩ : ∃ ab ao, A0 = some ⟨ab, ao, none⟩ := by obtain ⟨ab, ao, h, _⟩ := pairs_at hN.pairs h2; exact ⟨ab, ao, h⟩
  subst hA0
  clear hN hl hsr hp1 hp2 hLT hLD hlt hld
  go_enter Try.func71, Try.ntmps71
  have HB0 := Lib.hid (@cut_start w (.slice (some ⟨ab, ao, none⟩) nd.pairs.length c0) (.slice A1 nd.seps.length c1) (.slice A2 nd.kids.length c2))
  have HF := Lib.hid (fun W (h : Below (w.heap.size + 1 + 1) (cutW w (.slice (some ⟨ab, ao, none⟩) nd.pairs.length c0) (.slice A1 nd.seps.length c1) (.slice A2 nd.kids.length c2)) W) => cut_node h)
  go_wp2_with (first
    | (go_at_call 70; go_must (refine (refLeaf_c (some ⟨ab, ao, none⟩) A1 A2 nd.pairs.length c0 nd.seps.length c1 nd.kids.length c2 _ _ HLf.out).mono ?_; rintro e w0 ⟨rfl, hb0⟩; have HB := Lib.hid (cut_next HB0.out hb0); have HROW := Lib.hid ((hb0.block _ (by simp)).trans (@cut_new w (.slice (some ⟨ab, ao, none⟩) nd.pairs.length c0) (.slice A1 nd.seps.length c1) (.slice A2 nd.kids.length c2))); clear hb0)))
  have HRT := Lib.hid (fun W (h : Below (w.heap.size + 1 + 1) (cutW w (.slice (some ⟨ab, ao, none⟩) nd.pairs.length c0) (.slice A1 nd.seps.length c1) (.slice A2 nd.kids.length c2)) W) => (show Rd W 2 (some ⟨ab, ao, none⟩) (j + 1) (pcells LT) by rw [← HLT.out, ← pcells_take]; exact (HN.out.pairs.below (cut_below h)).take (by omega)))
  have HRDR := Lib.hid (fun W (h : Below (w.heap.size + 1 + 1) (cutW w (.slice (some ⟨ab, ao, none⟩) nd.pairs.length c0) (.slice A1 nd.seps.length c1) (.slice A2 nd.kids.length c2)) W) => (show Rd W 2 AX (nd.pairs.length - (j + 1)) (pcells LD) by rw [← HLD.out, ← pcells_drop]; exact HSR.out W _ (HN.out.pairs.below (cut_below h))))
  have HE := Lib.hid (fun W (h : Below (w.heap.size + 1 + 1) (cutW w (.slice (some ⟨ab, ao, none⟩) nd.pairs.length c0) (.slice A1 nd.seps.length c1) (.slice A2 nd.kids.length c2)) W) => And.intro (pairs_at1 (HN.out.pairs.below (cut_below h)) (show j < nd.pairs.length by omega)) (pairs_at1 (HN.out.pairs.below (cut_below h)) h2))
  have HB0 := HB
  have HROW0 := HROW
  clear HB HROW
  refine wp_region_sched (S := Below (w.heap.size + 1 + 1) (cutW w (.slice (some ⟨ab, ao, none⟩) nd.pairs.length c0) (.slice A1 nd.seps.length c1) (.slice A2 nd.kids.length c2))) [(0, true), (1, true), (3, true), (4, true), (5, true), (6, true), (2, false), (7, false), (8, true), (9, true), (10, false)] (by kernel_rfl) (by kernel_rfl) (by kernel_rfl) (fun _ _ d _ _ h => by cases d <;> exact h) HB0.out.drew ?_
  repeat (apply sched_take; (exact rfl); rfl; (intro W hW; obtain ⟨q0, q1, q2⟩ := HF.out W hW; go_simp; (try with_reducible rfl)); simp only [Act.put, List.setIfInBounds_toArray, List.set_cons_zero, List.set_cons_succ])
  obtain ⟨r0, r1, r2, r3, r4, r5, r6⟩ := box7s HROW0.out
  apply sched_run; (exact rfl); rfl; intro K hK; go_simp
  refine hK.out _ _ HB0.out.drew (fun _ => ?_)
  clear hK K
  try simp only [Act.put, List.setIfInBounds_toArray, List.set_cons_zero, List.set_cons_succ]
  repeat (apply sched_take; (exact rfl); rfl; (intro W hW; obtain ⟨q0, q1, q2⟩ := HF.out W hW; go_simp; (try with_reducible rfl)); simp only [Act.put, List.setIfInBounds_toArray, List.set_cons_zero, List.set_cons_succ])
  apply sched_run; (exact rfl); rfl; intro K hK
  refine wp_copy (.tmp 10) (.tmp 14) 25 rfl 31 Try.underlying25 info31 rfl (by decide) rfl rfl (HRT.out _ HB0.out.drew) (pc1 _) HP1.out (by decide) ?_
  intro B1 d1 w1 hown1 hb1
  have hB1 := cut_next HB0.out.drew hb1
  have hr1 := (hb1.block (w.heap.size + 1 + 1) (by have := cut_size HB0.out.drew; omega)).trans HROW0.out
  refine hK.out _ _ hB1 (fun _ => ?_)
  clear hK K r0 r1 r2 r3 r4 r5 r6
  try simp only [Act.put, List.setIfInBounds_toArray, List.set_cons_zero, List.set_cons_succ]
  repeat (apply sched_take; (exact rfl); rfl; (intro W hW; obtain ⟨q0, q1, q2⟩ := HF.out W hW; go_simp; (try with_reducible rfl)); simp only [Act.put, List.setIfInBounds_toArray, List.set_cons_zero, List.set_cons_succ])
  obtain ⟨f0, f1, f2, f3, f4, f5, f6⟩ := box7f hr1
  obtain ⟨r0, r1, r2, r3, r4, r5, r6⟩ := box7s hr1
  apply sched_run; (exact rfl); rfl; intro K hK; go_simp
  have hs1 := hB1.setCell (p := ⟨w.heap.size + 1 + 1, 0, none⟩) (Nat.le_refl _) (.slice B1 (j + 1) d1)
  refine hK.out _ _ hs1 (fun _ => ?_)
  clear hK K
  refine sched_done ?_
  have HB1 := Lib.hid hs1
  have HROW1 := Lib.hid (heap_setCell_same w1 (w.heap.size + 1 + 1) 0 _ _ (.slice B1 (j + 1) d1) hr1)
  have HO1 := Lib.hid (ownsRow_setCell_other hown1 (a := ⟨w.heap.size + 1 + 1, 0, none⟩) (own_ne_block hown1 hr1 (by decide)) (.slice B1 (j + 1) d1))
  clear hs1 hB1 hr1 hb1 hown1 f0 f1 f2 f3 f4 f5 f6 r0 r1 r2 r3 r4 r5 r6
  generalize World.setCell w1 ⟨w.heap.size + 1 + 1, 0, none⟩ (.slice B1 (j + 1) d1) = W1 at *
  skip
  have HROW1 : Hid (W1.heap[w.heap.size + 1 + 1]? = some (.cells #[.slice B1 (j + 1) d1, .slice none 0 0, .slice none 0 0, .string ⟨#[]⟩, .slice none 0 0, .slice none 0 0, .slice none 0 0] 54 (0, 0))) := Lib.hid HROW1.out
  obtain ⟨q0, q1, q2⟩ := cut_node HB1.out
  go_wp2
  clear q0 q1 q2
  refine wp_region_sched (S := Below (w.heap.size + 1 + 1) (cutW w (.slice (some ⟨ab, ao, none⟩) nd.pairs.length c0) (.slice A1 nd.seps.length c1) (.slice A2 nd.kids.length c2))) [(0, true), (1, true), (3, true), (4, true), (5, true), (6, true), (2, false), (7, false), (8, true), (9, true), (10, false)] (by kernel_rfl) (by kernel_rfl) (by kernel_rfl) (fun _ _ d _ _ h => by cases d <;> exact h) HB1.out.drew ?_
  repeat (apply sched_take; (exact rfl); rfl; (intro W hW; obtain ⟨q0, q1, q2⟩ := HF.out W hW; go_simp; (try with_reducible rfl)); simp only [Act.put, List.setIfInBounds_toArray, List.set_cons_zero, List.set_cons_succ])
  obtain ⟨r0, r1, r2, r3, r4, r5, r6⟩ := box7s HROW1.out
  apply sched_run; (exact rfl); rfl; intro K hK; go_simp
  refine hK.out _ _ HB1.out.drew (fun _ => ?_)
  clear hK K
  try simp only [Act.put, List.setIfInBounds_toArray, List.set_cons_zero, List.set_cons_succ]
  repeat (apply sched_take; (exact rfl); rfl; (intro W hW; obtain ⟨q0, q1, q2⟩ := HF.out W hW; go_simp; (try with_reducible rfl)); simp only [Act.put, List.setIfInBounds_toArray, List.set_cons_zero, List.set_cons_succ])
  apply sched_run; (exact rfl); rfl; intro K hK
  refine wp_copy (.tmp 20) (.tmp 24) 25 rfl 31 Try.underlying25 info31 rfl (by decide) rfl rfl (HRDR.out _ HB1.out.drew) (pc1 _) HP2.out (by decide) ?_
  intro B2 d2 w2 hown2 hb2
  have hB2 := cut_next HB1.out.drew hb2
  have hr2 := (hb2.block (w.heap.size + 1 + 1) (by have := cut_size HB1.out.drew; omega)).trans HROW1.out
  refine hK.out _ _ hB2 (fun _ => ?_)
  clear hK K r0 r1 r2 r3 r4 r5 r6
  try simp only [Act.put, List.setIfInBounds_toArray, List.set_cons_zero, List.set_cons_succ]
  repeat (apply sched_take; (exact rfl); rfl; (intro W hW; obtain ⟨q0, q1, q2⟩ := HF.out W hW; go_simp; (try with_reducible rfl)); simp only [Act.put, List.setIfInBounds_toArray, List.set_cons_zero, List.set_cons_succ])
  obtain ⟨f0, f1, f2, f3, f4, f5, f6⟩ := box7f hr2
  obtain ⟨r0, r1, r2, r3, r4, r5, r6⟩ := box7s hr2
  apply sched_run; (exact rfl); rfl; intro K hK; go_simp
  have hs2 := hB2.setCell (p := ⟨w.heap.size + 1 + 1, 4, none⟩) (Nat.le_refl _) (.slice B2 (nd.pairs.length - (j + 1)) d2)
  refine hK.out _ _ hs2 (fun _ => ?_)
  clear hK K
  refine sched_done ?_
  have HB2 := Lib.hid hs2
  have HROW2 := Lib.hid (heap_setCell_same w2 (w.heap.size + 1 + 1) 4 _ _ (.slice B2 (nd.pairs.length - (j + 1)) d2) hr2)
  have T := own_below (own_below HO1.out (Below.refl _ _).drew) hb2
  have HO1' := Lib.hid (ownsRow_setCell_other T (a := ⟨w.heap.size + 1 + 1, 4, none⟩) (own_ne_block T hr2 (by decide)) (.slice B2 (nd.pairs.length - (j + 1)) d2))
  clear T
  have HO2 := Lib.hid (ownsRow_setCell_other hown2 (a := ⟨w.heap.size + 1 + 1, 4, none⟩) (own_ne_block hown2 hr2 (by decide)) (.slice B2 (nd.pairs.length - (j + 1)) d2))
  clear hs2 hB2 hr2 hb2 hown2 f0 f1 f2 f3 f4 f5 f6 r0 r1 r2 r3 r4 r5 r6
  generalize World.setCell w2 ⟨w.heap.size + 1 + 1, 4, none⟩ (.slice B2 (nd.pairs.length - (j + 1)) d2) = W2 at *
  skip
  have HROW2 : Hid (W2.heap[w.heap.size + 1 + 1]? = some (.cells #[.slice B1 (j + 1) d1, .slice none 0 0, .slice none 0 0, .string ⟨#[]⟩, .slice B2 (nd.pairs.length - (j + 1)) d2, .slice none 0 0, .slice none 0 0] 54 (0, 0))) := Lib.hid HROW2.out
  obtain ⟨q0, q1, q2⟩ := cut_node HB2.out
  go_wp2
  clear q0 q1 q2
  have hwj : IntKind.i64.wrap (j : Int) = (j : Int) := IntWalk.i64_in _ (by omega)
  have hjr : 0 ≤ (j : Int) ∧ (j : Int) < (nd.pairs.length : Int) := by omega
  have hjr1 : 0 ≤ (j : Int) + 1 ∧ (j : Int) + 1 < (nd.pairs.length : Int) := by omega
  have htn : ((j : Int) + 1).toNat = j + 1 := by omega
  refine wp_region_sched (S := Below (w.heap.size + 1 + 1) (cutW w (.slice (some ⟨ab, ao, none⟩) nd.pairs.length c0) (.slice A1 nd.seps.length c1) (.slice A2 nd.kids.length c2))) [(0, true), (1, true), (2, true), (3, true), (4, true), (5, true), (6, true), (7, true), (8, true), (9, true), (10, true), (11, true), (12, true), (13, false), (14, true), (15, true), (16, true), (17, true), (18, false)] (by kernel_rfl) (by kernel_rfl) (by kernel_rfl) (fun _ _ d _ _ h => by cases d <;> exact h) HB2.out.drew ?_
  repeat (apply sched_take; (exact rfl); rfl; (intro W hW; obtain ⟨q0, q1, q2⟩ := HF.out W hW; obtain ⟨e0, e1⟩ := HE.out W hW; go_simp; (try with_reducible rfl)); simp only [Act.put, List.setIfInBounds_toArray, List.set_cons_zero, List.set_cons_succ])
  apply sched_run; (exact rfl); rfl; intro K hK; go_simp
  refine (refBetween_c nd.pairs[j].k nd.pairs[j + 1].k _ (HN.out.pk _ (List.getElem_mem _)).1 (HN.out.pk _ (List.getElem_mem _)).1).mono ?_; rintro e w3 ⟨rfl, hb3⟩
  have hB3 := cut_next HB2.out.drew hb3
  have hr3 := (hb3.block (w.heap.size + 1 + 1) (by have := cut_size HB2.out.drew; omega)).trans HROW2.out
  refine hK.out _ _ hB3 (fun _ => ?_)
  clear hK K
  try simp only [Act.put, List.setIfInBounds_toArray, List.set_cons_zero, List.set_cons_succ]
  repeat (apply sched_take; (exact rfl); rfl; (intro W hW; obtain ⟨q0, q1, q2⟩ := HF.out W hW; go_simp; (try with_reducible rfl)); simp only [Act.put, List.setIfInBounds_toArray, List.set_cons_zero, List.set_cons_succ])
  obtain ⟨f0, f1, f2, f3, f4, f5, f6⟩ := box7f hr3
  obtain ⟨r0, r1, r2, r3, r4, r5, r6⟩ := box7s hr3
  apply sched_run; (exact rfl); rfl; intro K hK; go_simp
  have hs3 := hB3.setCell (p := ⟨w.heap.size + 1 + 1, 3, none⟩) (Nat.le_refl _) (.string (sepS nd.pairs[j].k nd.pairs[j + 1].k))
  refine hK.out _ _ hs3 (fun _ => ?_)
  clear hK K
  refine sched_done ?_
  have HB3 := Lib.hid hs3
  have HROW3 := Lib.hid (heap_setCell_same w3 (w.heap.size + 1 + 1) 3 _ _ (.string (sepS nd.pairs[j].k nd.pairs[j + 1].k)) hr3)
  have T := own_below (own_below HO1'.out (Below.refl _ _).drew) hb3
  have HO1'' := Lib.hid (ownsRow_setCell_other T (a := ⟨w.heap.size + 1 + 1, 3, none⟩) (own_ne_block T hr3 (by decide)) (.string (sepS nd.pairs[j].k nd.pairs[j + 1].k)))
  clear T
  have T := own_below (own_below HO2.out (Below.refl _ _).drew) hb3
  have HO2' := Lib.hid (ownsRow_setCell_other T (a := ⟨w.heap.size + 1 + 1, 3, none⟩) (own_ne_block T hr3 (by decide)) (.string (sepS nd.pairs[j].k nd.pairs[j + 1].k)))
  clear T
  clear hs3 hB3 hr3 hb3 f0 f1 f2 f3 f4 f5 f6 r0 r1 r2 r3 r4 r5 r6
  generalize World.setCell w3 ⟨w.heap.size + 1 + 1, 3, none⟩ (.string (sepS nd.pairs[j].k nd.pairs[j + 1].k)) = W3 at *
  have HROW3 : Hid (W3.heap[w.heap.size + 1 + 1]? = some (.cells #[.slice B1 (j + 1) d1, .slice none 0 0, .slice none 0 0, .string (sepS nd.pairs[j].k nd.pairs[j + 1].k), .slice B2 (nd.pairs.length - (j + 1)) d2, .slice none 0 0, .slice none 0 0] 54 (0, 0))) := Lib.hid HROW3.out
  obtain ⟨q0, q1, q2⟩ := cut_node HB3.out
  obtain ⟨r0, r1, r2, r3, r4, r5, r6⟩ := box7s HROW3.out
  have hg := cut_row HB3.out
  have hz : w.heap.size + 1 + 1 < W3.heap.size := by have := cut_size HB3.out; omega
  go_wp2_with (first | (refine wpList_store_row rfl 54 (.tmp 4) (.tmp 46) rfl (w.heap.size + 1) #[.slice B1 (j + 1) d1, .slice none 0 0, .slice none 0 0, .string (sepS nd.pairs[j].k nd.pairs[j + 1].k), .slice B2 (nd.pairs.length - (j + 1)) d2, .slice none 0 0, .slice none 0 0] rfl rfl 54 zero7 hg info54 rfl (own7r _ _ _ _ _ _ _ _ _ _ _ _ _ _ _ _ _ _ _) ?_))
  refine bodyPost_ret (results_cell_row rfl _ _ (w.heap.size + 1) 54 #[.slice B1 (j + 1) d1, .slice none 0 0, .slice none 0 0, .string (sepS nd.pairs[j].k nd.pairs[j + 1].k), .slice B2 (nd.pairs.length - (j + 1)) d2, .slice none 0 0, .slice none 0 0] (0, 0) _ rfl (setRow_block _ _ _ _ _ _ hg) Try.underlying54 rfl info54) rfl ?_
  have e1 : halvesL nd (j + 1) = ⟨LT, [], []⟩ := by rw [halvesL, if_pos HL.out.2, HLT.out]
  have e2 : halvesR nd (j + 1) = ⟨LD, [], []⟩ := by rw [halvesR, if_pos HL.out.2, HLD.out]
  have e3 : halvesS nd (j + 1) = sepS nd.pairs[j].k nd.pairs[j + 1].k := by rw [halvesS, if_pos HL.out.2, Nat.add_sub_cancel, keyAt_get (by omega), keyAt_get h2]
  rw [e1, e2, e3]
  have l1 := leaf_own LT (show w.heap.size ≤ w0.heap.size by have := cut_size HB0.out; omega) (by rw [HTL.out]; exact HP1.out) (fun q hq => by rw [← HLT.out] at hq; exact HN.out.pk q (List.mem_of_mem_take hq)) (by rw [HTL.out]; exact own_setRow_other HO1''.out hg (by decide) #[.slice B1 (j + 1) d1, .slice none 0 0, .slice none 0 0, .string (sepS nd.pairs[j].k nd.pairs[j + 1].k), .slice B2 (nd.pairs.length - (j + 1)) d2, .slice none 0 0, .slice none 0 0])
  have l2 := leaf_own LD (show w.heap.size ≤ W1.heap.size by have := cut_size HB1.out; omega) (by rw [HDL.out]; exact HP2.out) (fun q hq => by rw [← HLD.out] at hq; exact HN.out.pk q (List.mem_of_mem_drop hq)) (by rw [HDL.out]; exact own_setRow_other HO2'.out hg (by decide) #[.slice B1 (j + 1) d1, .slice none 0 0, .slice none 0 0, .string (sepS nd.pairs[j].k nd.pairs[j + 1].k), .slice B2 (nd.pairs.length - (j + 1)) d2, .slice none 0 0, .slice none 0 0])
  refine ⟨⟨⟨B1, d1, none, 0, none, 0⟩, ⟨B2, d2, none, 0, none, 0⟩, ?_, l1, l2⟩, below_setRow (cut_below HB3.out) (by omega) _⟩
  exact ret_eq (by show _ = Value.agg #[.slice B1 LT.length d1, .slice none 0 0, .slice none 0 0, .string _, .slice B2 LD.length d2, .slice none 0 0, .slice none 0 0]; rw [HTL.out, HDL.out])

end Go.Proofs.Ytajkoeodabmgeaa
end

section
namespace Go.Proofs.Ytajkoeodabmgeaa
open Go.RowKit
set_option maxHeartbeats 4000000
set_option maxRecDepth 100000
attribute [local go_sem] grow_cell grow_frozen grow_size

theorem seps_at1 {w : World} {b o : Nat} {l : List ByteArray} (h : Rd w 1 (some ⟨b, o, none⟩) l.length (scells l)) {k : Nat} (hk : k < l.length) : w.cell? ⟨b, o + k, none⟩ = some (.string l[k]) := by
  obtain ⟨b', o', e, hc⟩ := seps_at h hk
  cases e; exact hc
theorem branch_own {w : World} {lo lo' lo0 : Nat} {A B : Option Addr} {c d : Nat} (s : List ByteArray) (l : List KidD) (hlo : lo0 ≤ lo) (hlo' : lo0 ≤ lo') (hb : l.length * 36 ≤ 140737488355328) (hb' : s.length * 16 ≤ 140737488355328) (hkk : ∀ q ∈ l, q.sum.length = 32) (hsk : ∀ q ∈ s, q.size ≤ 140737488355328)
    (h : w.ownsRow lo 85 33 (.slice A l.length c) l.length (kcells l)) (h' : w.ownsRow lo' 9 1 (.slice B s.length d) s.length (scells s)) : OwN w lo0 w.heap.size none 0 B d A c ⟨[], s, l⟩ :=
  OwN.branch (ownsRow_mono' h hlo) (ownsRow_mono' h' hlo') (Nat.le_refl _) hb hb' hkk hsk

theorem refCut_branch (A0 A1 A2 : Option Addr) (c0 c1 c2 : Nat) (nd : NodeD) (j : Nat) (w : World) (hN : RdN w A0 c0 A1 c1 A2 c2 nd) (hk0 : nd.kids.length ≠ 0) (h1 : j + 1 ≤ nd.kids.length) (h2 : j < nd.seps.length) :
    Calls Try.prog 71 #[vN A0 c0 A1 c1 A2 c2 nd, .int .i64 ((j + 1 : Nat) : Int)] w fun e w' =>
      (∃ x y : VH, e = .returned (vH x (halvesL nd (j + 1)) (halvesS nd (j + 1)) y (halvesR nd (j + 1))) ∧ VH.own x w' w.heap.size w'.heap.size (halvesL nd (j + 1)) ∧ VH.own y w' w.heap.size w'.heap.size (halvesR nd (j + 1))) ∧ Below w.heap.size w w' := by
  have HN := Lib.hid hN
  have HK0 := Lib.hid hk0
  have hp := hN.hk
  have hps := hN.hs
  have hck := hN.hck
  have hcs := hN.hcs
  have hp1 : (j + 1) * 36 ≤ 140737488355328 := Nat.le_trans (Nat.mul_le_mul_right _ (by omega)) hp
  have hp2 : (nd.kids.length - (j + 1)) * 36 ≤ 140737488355328 := Nat.le_trans (Nat.mul_le_mul_right _ (by omega)) hp
  have hp3 : j * 16 ≤ 140737488355328 := Nat.le_trans (Nat.mul_le_mul_right _ (by omega)) hps
  have hp4 : (nd.seps.length - (j + 1)) * 16 ≤ 140737488355328 := Nat.le_trans (Nat.mul_le_mul_right _ (by omega)) hps
  have hwj : IntKind.i64.wrap (j : Int) = (j : Int) := IntWalk.i64_in _ (by omega)
  have hjc : 0 ≤ (j : Int) + 1 ∧ (j : Int) + 1 ≤ (c2 : Int) := by omega
  have hjs : 0 ≤ (j : Int) ∧ (j : Int) ≤ (c1 : Int) := by omega
  have hjl : (j : Int) ≤ (c1 : Int) := by omega
  have HP1 := Lib.hid hp1
  have HP2 := Lib.hid hp2
  have HP3 := Lib.hid hp3
  have HP4 := Lib.hid hp4
  obtain ⟨AX, hsl, hsr⟩ := slice_from (P := Try.prog) 27 33 elem27 sizeK A2 nd.kids.length c2 (j + 1) ((j : Int) + 1) (by omega) (by omega) hck
  obtain ⟨sb, so, hA1⟩ : ∃ sb so, A1 = some ⟨sb, so, none⟩ := by obtain ⟨sb, so, h, _⟩ := seps_at hN.seps h2; exact ⟨sb, so, h⟩
  subst hA1
  obtain ⟨AS, hsl2, hsr2⟩ := slice_from (P := Try.prog) 26 1 elem26 sizeS (some ⟨sb, so, none⟩) nd.seps.length c1 (j + 1) ((j : Int) + 1) (by omega) (by omega) hcs
  have HSR := Lib.hid hsr
  have HSR2 := Lib.hid hsr2
  have HLf : Hid (decide (nd.seps.length = 0 ∧ nd.kids.length = 0) = false) := Lib.hid (decide_eq_false fun h => hk0 h.2)
  obtain ⟨KT, hKT⟩ : ∃ KT, nd.kids.take (j + 1) = KT := ⟨_, rfl⟩
  obtain ⟨KD, hKD⟩ : ∃ KD, nd.kids.drop (j + 1) = KD := ⟨_, rfl⟩
  obtain ⟨ST, hST⟩ : ∃ ST, nd.seps.take j = ST := ⟨_, rfl⟩
  obtain ⟨SD, hSD⟩ : ∃ SD, nd.seps.drop (j + 1) = SD := ⟨_, rfl⟩
  have l1 : KT.length = j + 1 := by rw [← hKT, List.length_take]; omega
  have l2 : KD.length = nd.kids.length - (j + 1) := by rw [← hKD, List.length_drop]
  have l3 : ST.length = j := by rw [← hST, List.length_take]; omega
  have l4 : SD.length = nd.seps.length - (j + 1) := by rw [← hSD, List.length_drop]
  have L1 := Lib.hid l1
  have L2 := Lib.hid l2
  have L3 := Lib.hid l3
  have L4 := Lib.hid l4
  have HKT := Lib.hid hKT
  have HKD := Lib.hid hKD
  have HST := Lib.hid hST
  have HSD := Lib.hid hSD
  clear hN hk0 hsr hsr2 hp1 hp2 hp3 hp4 hKT hKD hST hSD l1 l2 l3 l4
  go_enter Try.func71, Try.ntmps71
  have HB0 := Lib.hid (@cut_start w (.slice A0 nd.pairs.length c0) (.slice (some ⟨sb, so, none⟩) nd.seps.length c1) (.slice A2 nd.kids.length c2))
  have HF := Lib.hid (fun W (h : Below (w.heap.size + 1 + 1) (cutW w (.slice A0 nd.pairs.length c0) (.slice (some ⟨sb, so, none⟩) nd.seps.length c1) (.slice A2 nd.kids.length c2)) W) => cut_node h)
  go_wp2_with (first
    | (go_at_call 70; go_must (refine (refLeaf_c A0 (some ⟨sb, so, none⟩) A2 nd.pairs.length c0 nd.seps.length c1 nd.kids.length c2 _ _ HLf.out).mono ?_; rintro e w0 ⟨rfl, hb0⟩; have HB := Lib.hid (cut_next HB0.out hb0); have HROW := Lib.hid ((hb0.block _ (by simp)).trans (@cut_new w (.slice A0 nd.pairs.length c0) (.slice (some ⟨sb, so, none⟩) nd.seps.length c1) (.slice A2 nd.kids.length c2))); clear hb0)))
  have HR1 := Lib.hid (fun W (h : Below (w.heap.size + 1 + 1) (cutW w (.slice A0 nd.pairs.length c0) (.slice (some ⟨sb, so, none⟩) nd.seps.length c1) (.slice A2 nd.kids.length c2)) W) => (show Rd W 33 A2 (j + 1) (kcells KT) by rw [← HKT.out, ← kcells_take _ _ HN.out.kk]; exact (HN.out.kids.below (cut_below h)).take (by omega)))
  have HR2 := Lib.hid (fun W (h : Below (w.heap.size + 1 + 1) (cutW w (.slice A0 nd.pairs.length c0) (.slice (some ⟨sb, so, none⟩) nd.seps.length c1) (.slice A2 nd.kids.length c2)) W) => (show Rd W 33 AX (nd.kids.length - (j + 1)) (kcells KD) by rw [← HKD.out, ← kcells_drop _ _ HN.out.kk]; exact HSR.out W _ (HN.out.kids.below (cut_below h))))
  have HR3 := Lib.hid (fun W (h : Below (w.heap.size + 1 + 1) (cutW w (.slice A0 nd.pairs.length c0) (.slice (some ⟨sb, so, none⟩) nd.seps.length c1) (.slice A2 nd.kids.length c2)) W) => (show Rd W 1 (some ⟨sb, so, none⟩) (j) (scells ST) by rw [← HST.out, ← scells_take]; exact (HN.out.seps.below (cut_below h)).take (by omega)))
  have HR4 := Lib.hid (fun W (h : Below (w.heap.size + 1 + 1) (cutW w (.slice A0 nd.pairs.length c0) (.slice (some ⟨sb, so, none⟩) nd.seps.length c1) (.slice A2 nd.kids.length c2)) W) => (show Rd W 1 AS (nd.seps.length - (j + 1)) (scells SD) by rw [← HSD.out, ← scells_drop]; exact HSR2.out W _ (HN.out.seps.below (cut_below h))))
  have HE := Lib.hid (fun W (h : Below (w.heap.size + 1 + 1) (cutW w (.slice A0 nd.pairs.length c0) (.slice (some ⟨sb, so, none⟩) nd.seps.length c1) (.slice A2 nd.kids.length c2)) W) => seps_at1 (HN.out.seps.below (cut_below h)) h2)
  have HB0 := HB
  have HROW0 := HROW
  clear HB HROW
  refine wp_region_sched (S := Below (w.heap.size + 1 + 1) (cutW w (.slice A0 nd.pairs.length c0) (.slice (some ⟨sb, so, none⟩) nd.seps.length c1) (.slice A2 nd.kids.length c2))) [(0, true), (1, true), (3, true), (4, true), (5, true), (6, true), (2, false), (7, false), (8, true), (9, true), (10, false)] (by kernel_rfl) (by kernel_rfl) (by kernel_rfl) (fun _ _ d _ _ h => by cases d <;> exact h) HB0.out.drew ?_
  repeat (apply sched_take; (exact rfl); rfl; (intro W hW; obtain ⟨q0, q1, q2⟩ := HF.out W hW; go_simp; (try with_reducible rfl)); simp only [Act.put, List.setIfInBounds_toArray, List.set_cons_zero, List.set_cons_succ])
  obtain ⟨r0, r1, r2, r3, r4, r5, r6⟩ := box7s HROW0.out
  apply sched_run; (exact rfl); rfl; intro K hK; go_simp
  refine hK.out _ _ HB0.out.drew (fun _ => ?_)
  clear hK K
  try simp only [Act.put, List.setIfInBounds_toArray, List.set_cons_zero, List.set_cons_succ]
  repeat (apply sched_take; (exact rfl); rfl; (intro W hW; obtain ⟨q0, q1, q2⟩ := HF.out W hW; go_simp; (try with_reducible rfl)); simp only [Act.put, List.setIfInBounds_toArray, List.set_cons_zero, List.set_cons_succ])
  apply sched_run; (exact rfl); rfl; intro K hK
  refine wp_copy (.tmp 49) (.tmp 53) 27 rfl 85 Try.underlying27 info85' rfl (by decide) rfl rfl (HR1.out _ HB0.out.drew) (kc1 _) HP1.out (by decide) ?_
  intro B1 d1 w1 hown1 hb1
  have hB1 := cut_next HB0.out.drew hb1
  have hr1 := (hb1.block (w.heap.size + 1 + 1) (by have := cut_size HB0.out.drew; omega)).trans HROW0.out
  refine hK.out _ _ hB1 (fun _ => ?_)
  clear hK K r0 r1 r2 r3 r4 r5 r6
  try simp only [Act.put, List.setIfInBounds_toArray, List.set_cons_zero, List.set_cons_succ]
  repeat (apply sched_take; (exact rfl); rfl; (intro W hW; obtain ⟨q0, q1, q2⟩ := HF.out W hW; go_simp; (try with_reducible rfl)); simp only [Act.put, List.setIfInBounds_toArray, List.set_cons_zero, List.set_cons_succ])
  obtain ⟨f0, f1, f2, f3, f4, f5, f6⟩ := box7f hr1
  obtain ⟨r0, r1, r2, r3, r4, r5, r6⟩ := box7s hr1
  apply sched_run; (exact rfl); rfl; intro K hK; go_simp
  have hs1 := hB1.setCell (p := ⟨w.heap.size + 1 + 1, 2, none⟩) (Nat.le_refl _) (.slice B1 (j + 1) d1)
  refine hK.out _ _ hs1 (fun _ => ?_)
  clear hK K
  refine sched_done ?_
  have HB1 := Lib.hid hs1
  have HROW1 := Lib.hid (heap_setCell_same w1 (w.heap.size + 1 + 1) 2 _ _ (.slice B1 (j + 1) d1) hr1)
  have HO1 := Lib.hid (ownsRow_setCell_other hown1 (a := ⟨w.heap.size + 1 + 1, 2, none⟩) (own_ne_block hown1 hr1 (by decide)) (.slice B1 (j + 1) d1))
  clear hs1 hB1 hr1 hb1 hown1 f0 f1 f2 f3 f4 f5 f6 r0 r1 r2 r3 r4 r5 r6
  generalize World.setCell w1 ⟨w.heap.size + 1 + 1, 2, none⟩ (.slice B1 (j + 1) d1) = W1 at *
  skip
  have HROW1 : Hid (W1.heap[w.heap.size + 1 + 1]? = some (.cells #[.slice none 0 0, .slice none 0 0, .slice B1 (j + 1) d1, .string ⟨#[]⟩, .slice none 0 0, .slice none 0 0, .slice none 0 0] 54 (0, 0))) := Lib.hid HROW1.out
  obtain ⟨q0, q1, q2⟩ := cut_node HB1.out
  go_wp2
  clear q0 q1 q2
  refine wp_region_sched (S := Below (w.heap.size + 1 + 1) (cutW w (.slice A0 nd.pairs.length c0) (.slice (some ⟨sb, so, none⟩) nd.seps.length c1) (.slice A2 nd.kids.length c2))) [(0, true), (1, true), (3, true), (4, true), (5, true), (6, true), (7, true), (2, false), (8, false), (9, true), (10, true), (11, false)] (by kernel_rfl) (by kernel_rfl) (by kernel_rfl) (fun _ _ d _ _ h => by cases d <;> exact h) HB1.out.drew ?_
  repeat (apply sched_take; (exact rfl); rfl; (intro W hW; obtain ⟨q0, q1, q2⟩ := HF.out W hW; go_simp; (try with_reducible rfl)); simp only [Act.put, List.setIfInBounds_toArray, List.set_cons_zero, List.set_cons_succ])
  obtain ⟨r0, r1, r2, r3, r4, r5, r6⟩ := box7s HROW1.out
  apply sched_run; (exact rfl); rfl; intro K hK; go_simp
  refine hK.out _ _ HB1.out.drew (fun _ => ?_)
  clear hK K
  try simp only [Act.put, List.setIfInBounds_toArray, List.set_cons_zero, List.set_cons_succ]
  repeat (apply sched_take; (exact rfl); rfl; (intro W hW; obtain ⟨q0, q1, q2⟩ := HF.out W hW; go_simp; (try with_reducible rfl)); simp only [Act.put, List.setIfInBounds_toArray, List.set_cons_zero, List.set_cons_succ])
  apply sched_run; (exact rfl); rfl; intro K hK
  refine wp_copy (.tmp 59) (.tmp 64) 26 rfl 9 Try.underlying26 info9 rfl (by decide) rfl rfl (HR3.out _ HB1.out.drew) (sc1 _) HP3.out (by decide) ?_
  intro B2 d2 w2 hown2 hb2
  have hB2 := cut_next HB1.out.drew hb2
  have hr2 := (hb2.block (w.heap.size + 1 + 1) (by have := cut_size HB1.out.drew; omega)).trans HROW1.out
  refine hK.out _ _ hB2 (fun _ => ?_)
  clear hK K r0 r1 r2 r3 r4 r5 r6
  try simp only [Act.put, List.setIfInBounds_toArray, List.set_cons_zero, List.set_cons_succ]
  repeat (apply sched_take; (exact rfl); rfl; (intro W hW; obtain ⟨q0, q1, q2⟩ := HF.out W hW; go_simp; (try with_reducible rfl)); simp only [Act.put, List.setIfInBounds_toArray, List.set_cons_zero, List.set_cons_succ])
  obtain ⟨f0, f1, f2, f3, f4, f5, f6⟩ := box7f hr2
  obtain ⟨r0, r1, r2, r3, r4, r5, r6⟩ := box7s hr2
  apply sched_run; (exact rfl); rfl; intro K hK; go_simp
  have hs2 := hB2.setCell (p := ⟨w.heap.size + 1 + 1, 1, none⟩) (Nat.le_refl _) (.slice B2 (j) d2)
  refine hK.out _ _ hs2 (fun _ => ?_)
  clear hK K
  refine sched_done ?_
  have HB2 := Lib.hid hs2
  have HROW2 := Lib.hid (heap_setCell_same w2 (w.heap.size + 1 + 1) 1 _ _ (.slice B2 (j) d2) hr2)
  have T := own_below (own_below HO1.out (Below.refl _ _).drew) hb2
  have HO1' := Lib.hid (ownsRow_setCell_other T (a := ⟨w.heap.size + 1 + 1, 1, none⟩) (own_ne_block T hr2 (by decide)) (.slice B2 (j) d2))
  clear T
  have HO2 := Lib.hid (ownsRow_setCell_other hown2 (a := ⟨w.heap.size + 1 + 1, 1, none⟩) (own_ne_block hown2 hr2 (by decide)) (.slice B2 (j) d2))
  clear hs2 hB2 hr2 hb2 hown2 f0 f1 f2 f3 f4 f5 f6 r0 r1 r2 r3 r4 r5 r6
  generalize World.setCell w2 ⟨w.heap.size + 1 + 1, 1, none⟩ (.slice B2 (j) d2) = W2 at *
  skip
  have HROW2 : Hid (W2.heap[w.heap.size + 1 + 1]? = some (.cells #[.slice none 0 0, .slice B2 (j) d2, .slice B1 (j + 1) d1, .string ⟨#[]⟩, .slice none 0 0, .slice none 0 0, .slice none 0 0] 54 (0, 0))) := Lib.hid HROW2.out
  have hjr : 0 ≤ (j : Int) ∧ (j : Int) < (nd.seps.length : Int) := by omega
  obtain ⟨q0, q1, q2⟩ := cut_node HB2.out
  obtain ⟨f0, f1, f2, f3, f4, f5, f6⟩ := box7f HROW2.out
  obtain ⟨r0, r1, r2, r3, r4, r5, r6⟩ := box7s HROW2.out
  have e0 := HE.out _ HB2.out
  have hz := cut_size HB2.out
  have hz2 : w.heap.size + 1 + 1 < W2.heap.size := by omega
  go_wp2
  have hs3 := HB2.out.setCell (p := ⟨w.heap.size + 1 + 1, 3, none⟩) (Nat.le_refl _) (.string nd.seps[j])
  have hr3 := heap_setCell_same W2 (w.heap.size + 1 + 1) 3 _ _ (.string nd.seps[j]) HROW2.out
  have HB3 := Lib.hid hs3
  have HO1'' := Lib.hid (ownsRow_setCell_other HO1'.out (a := ⟨w.heap.size + 1 + 1, 3, none⟩) (own_ne_block HO1'.out HROW2.out (by decide)) (.string nd.seps[j]))
  have HO2' := Lib.hid (ownsRow_setCell_other HO2.out (a := ⟨w.heap.size + 1 + 1, 3, none⟩) (own_ne_block HO2.out HROW2.out (by decide)) (.string nd.seps[j]))
  have HROW3 : Hid ((W2.setCell ⟨w.heap.size + 1 + 1, 3, none⟩ (.string nd.seps[j])).heap[w.heap.size + 1 + 1]? = some (.cells #[.slice none 0 0, .slice B2 (j) d2, .slice B1 (j + 1) d1, .string nd.seps[j], .slice none 0 0, .slice none 0 0, .slice none 0 0] 54 (0, 0))) := Lib.hid hr3
  clear hs3 hr3 f0 f1 f2 f3 f4 f5 f6 r0 r1 r2 r3 r4 r5 r6 q0 q1 q2 e0 hz hz2
  generalize World.setCell W2 ⟨w.heap.size + 1 + 1, 3, none⟩ (.string nd.seps[j]) = W3 at *
  refine wp_region_sched (S := Below (w.heap.size + 1 + 1) (cutW w (.slice A0 nd.pairs.length c0) (.slice (some ⟨sb, so, none⟩) nd.seps.length c1) (.slice A2 nd.kids.length c2))) [(0, true), (1, true), (3, true), (4, true), (5, true), (6, true), (2, false), (7, false), (8, true), (9, true), (10, false)] (by kernel_rfl) (by kernel_rfl) (by kernel_rfl) (fun _ _ d _ _ h => by cases d <;> exact h) HB3.out.drew ?_
  repeat (apply sched_take; (exact rfl); rfl; (intro W hW; obtain ⟨q0, q1, q2⟩ := HF.out W hW; go_simp; (try with_reducible rfl)); simp only [Act.put, List.setIfInBounds_toArray, List.set_cons_zero, List.set_cons_succ])
  obtain ⟨r0, r1, r2, r3, r4, r5, r6⟩ := box7s HROW3.out
  apply sched_run; (exact rfl); rfl; intro K hK; go_simp
  refine hK.out _ _ HB3.out.drew (fun _ => ?_)
  clear hK K
  try simp only [Act.put, List.setIfInBounds_toArray, List.set_cons_zero, List.set_cons_succ]
  repeat (apply sched_take; (exact rfl); rfl; (intro W hW; obtain ⟨q0, q1, q2⟩ := HF.out W hW; go_simp; (try with_reducible rfl)); simp only [Act.put, List.setIfInBounds_toArray, List.set_cons_zero, List.set_cons_succ])
  apply sched_run; (exact rfl); rfl; intro K hK
  refine wp_copy (.tmp 77) (.tmp 81) 27 rfl 85 Try.underlying27 info85' rfl (by decide) rfl rfl (HR2.out _ HB3.out.drew) (kc1 _) HP2.out (by decide) ?_
  intro B4 d4 w4 hown4 hb4
  have hB4 := cut_next HB3.out.drew hb4
  have hr4 := (hb4.block (w.heap.size + 1 + 1) (by have := cut_size HB3.out.drew; omega)).trans HROW3.out
  refine hK.out _ _ hB4 (fun _ => ?_)
  clear hK K r0 r1 r2 r3 r4 r5 r6
  try simp only [Act.put, List.setIfInBounds_toArray, List.set_cons_zero, List.set_cons_succ]
  repeat (apply sched_take; (exact rfl); rfl; (intro W hW; obtain ⟨q0, q1, q2⟩ := HF.out W hW; go_simp; (try with_reducible rfl)); simp only [Act.put, List.setIfInBounds_toArray, List.set_cons_zero, List.set_cons_succ])
  obtain ⟨f0, f1, f2, f3, f4, f5, f6⟩ := box7f hr4
  obtain ⟨r0, r1, r2, r3, r4, r5, r6⟩ := box7s hr4
  apply sched_run; (exact rfl); rfl; intro K hK; go_simp
  have hs4 := hB4.setCell (p := ⟨w.heap.size + 1 + 1, 6, none⟩) (Nat.le_refl _) (.slice B4 (nd.kids.length - (j + 1)) d4)
  refine hK.out _ _ hs4 (fun _ => ?_)
  clear hK K
  refine sched_done ?_
  have HB4 := Lib.hid hs4
  have HROW4 := Lib.hid (heap_setCell_same w4 (w.heap.size + 1 + 1) 6 _ _ (.slice B4 (nd.kids.length - (j + 1)) d4) hr4)
  have T := own_below (own_below HO1''.out (Below.refl _ _).drew) hb4
  have HO1''' := Lib.hid (ownsRow_setCell_other T (a := ⟨w.heap.size + 1 + 1, 6, none⟩) (own_ne_block T hr4 (by decide)) (.slice B4 (nd.kids.length - (j + 1)) d4))
  clear T
  have T := own_below (own_below HO2'.out (Below.refl _ _).drew) hb4
  have HO2'' := Lib.hid (ownsRow_setCell_other T (a := ⟨w.heap.size + 1 + 1, 6, none⟩) (own_ne_block T hr4 (by decide)) (.slice B4 (nd.kids.length - (j + 1)) d4))
  clear T
  have HO4 := Lib.hid (ownsRow_setCell_other hown4 (a := ⟨w.heap.size + 1 + 1, 6, none⟩) (own_ne_block hown4 hr4 (by decide)) (.slice B4 (nd.kids.length - (j + 1)) d4))
  clear hs4 hB4 hr4 hb4 hown4 f0 f1 f2 f3 f4 f5 f6 r0 r1 r2 r3 r4 r5 r6
  generalize World.setCell w4 ⟨w.heap.size + 1 + 1, 6, none⟩ (.slice B4 (nd.kids.length - (j + 1)) d4) = W4 at *
  skip
  have HROW4 : Hid (W4.heap[w.heap.size + 1 + 1]? = some (.cells #[.slice none 0 0, .slice B2 (j) d2, .slice B1 (j + 1) d1, .string nd.seps[j], .slice none 0 0, .slice none 0 0, .slice B4 (nd.kids.length - (j + 1)) d4] 54 (0, 0))) := Lib.hid HROW4.out
  obtain ⟨q0, q1, q2⟩ := cut_node HB4.out
  go_wp2
  clear q0 q1 q2
  refine wp_region_sched (S := Below (w.heap.size + 1 + 1) (cutW w (.slice A0 nd.pairs.length c0) (.slice (some ⟨sb, so, none⟩) nd.seps.length c1) (.slice A2 nd.kids.length c2))) [(0, true), (1, true), (3, true), (4, true), (5, true), (6, true), (2, false), (7, false), (8, true), (9, true), (10, false)] (by kernel_rfl) (by kernel_rfl) (by kernel_rfl) (fun _ _ d _ _ h => by cases d <;> exact h) HB4.out.drew ?_
  repeat (apply sched_take; (exact rfl); rfl; (intro W hW; obtain ⟨q0, q1, q2⟩ := HF.out W hW; go_simp; (try with_reducible rfl)); simp only [Act.put, List.setIfInBounds_toArray, List.set_cons_zero, List.set_cons_succ])
  obtain ⟨r0, r1, r2, r3, r4, r5, r6⟩ := box7s HROW4.out
  apply sched_run; (exact rfl); rfl; intro K hK; go_simp
  refine hK.out _ _ HB4.out.drew (fun _ => ?_)
  clear hK K
  try simp only [Act.put, List.setIfInBounds_toArray, List.set_cons_zero, List.set_cons_succ]
  repeat (apply sched_take; (exact rfl); rfl; (intro W hW; obtain ⟨q0, q1, q2⟩ := HF.out W hW; go_simp; (try with_reducible rfl)); simp only [Act.put, List.setIfInBounds_toArray, List.set_cons_zero, List.set_cons_succ])
  apply sched_run; (exact rfl); rfl; intro K hK
  refine wp_copy (.tmp 87) (.tmp 91) 26 rfl 9 Try.underlying26 info9 rfl (by decide) rfl rfl (HR4.out _ HB4.out.drew) (sc1 _) HP4.out (by decide) ?_
  intro B5 d5 w5 hown5 hb5
  have hB5 := cut_next HB4.out.drew hb5
  have hr5 := (hb5.block (w.heap.size + 1 + 1) (by have := cut_size HB4.out.drew; omega)).trans HROW4.out
  refine hK.out _ _ hB5 (fun _ => ?_)
  clear hK K r0 r1 r2 r3 r4 r5 r6
  try simp only [Act.put, List.setIfInBounds_toArray, List.set_cons_zero, List.set_cons_succ]
  repeat (apply sched_take; (exact rfl); rfl; (intro W hW; obtain ⟨q0, q1, q2⟩ := HF.out W hW; go_simp; (try with_reducible rfl)); simp only [Act.put, List.setIfInBounds_toArray, List.set_cons_zero, List.set_cons_succ])
  obtain ⟨f0, f1, f2, f3, f4, f5, f6⟩ := box7f hr5
  obtain ⟨r0, r1, r2, r3, r4, r5, r6⟩ := box7s hr5
  apply sched_run; (exact rfl); rfl; intro K hK; go_simp
  have hs5 := hB5.setCell (p := ⟨w.heap.size + 1 + 1, 5, none⟩) (Nat.le_refl _) (.slice B5 (nd.seps.length - (j + 1)) d5)
  refine hK.out _ _ hs5 (fun _ => ?_)
  clear hK K
  refine sched_done ?_
  have HB5 := Lib.hid hs5
  have HROW5 := Lib.hid (heap_setCell_same w5 (w.heap.size + 1 + 1) 5 _ _ (.slice B5 (nd.seps.length - (j + 1)) d5) hr5)
  have T := own_below (own_below HO1'''.out (Below.refl _ _).drew) hb5
  have HO1'''' := Lib.hid (ownsRow_setCell_other T (a := ⟨w.heap.size + 1 + 1, 5, none⟩) (own_ne_block T hr5 (by decide)) (.slice B5 (nd.seps.length - (j + 1)) d5))
  clear T
  have T := own_below (own_below HO2''.out (Below.refl _ _).drew) hb5
  have HO2''' := Lib.hid (ownsRow_setCell_other T (a := ⟨w.heap.size + 1 + 1, 5, none⟩) (own_ne_block T hr5 (by decide)) (.slice B5 (nd.seps.length - (j + 1)) d5))
  clear T
  have T := own_below (own_below HO4.out (Below.refl _ _).drew) hb5
  have HO4' := Lib.hid (ownsRow_setCell_other T (a := ⟨w.heap.size + 1 + 1, 5, none⟩) (own_ne_block T hr5 (by decide)) (.slice B5 (nd.seps.length - (j + 1)) d5))
  clear T
  have HO5 := Lib.hid (ownsRow_setCell_other hown5 (a := ⟨w.heap.size + 1 + 1, 5, none⟩) (own_ne_block hown5 hr5 (by decide)) (.slice B5 (nd.seps.length - (j + 1)) d5))
  clear hs5 hB5 hr5 hb5 hown5 f0 f1 f2 f3 f4 f5 f6 r0 r1 r2 r3 r4 r5 r6
  generalize World.setCell w5 ⟨w.heap.size + 1 + 1, 5, none⟩ (.slice B5 (nd.seps.length - (j + 1)) d5) = W5 at *
  skip
  have HROW5 : Hid (W5.heap[w.heap.size + 1 + 1]? = some (.cells #[.slice none 0 0, .slice B2 (j) d2, .slice B1 (j + 1) d1, .string nd.seps[j], .slice none 0 0, .slice B5 (nd.seps.length - (j + 1)) d5, .slice B4 (nd.kids.length - (j + 1)) d4] 54 (0, 0))) := Lib.hid HROW5.out
  obtain ⟨r0, r1, r2, r3, r4, r5, r6⟩ := box7s HROW5.out
  have hg := cut_row HB5.out
  have hz : w.heap.size + 1 + 1 < W5.heap.size := by have := cut_size HB5.out; omega
  go_wp2_with (first | (refine wpList_store_row rfl 54 (.tmp 4) (.tmp 95) rfl (w.heap.size + 1) #[.slice none 0 0, .slice B2 (j) d2, .slice B1 (j + 1) d1, .string nd.seps[j], .slice none 0 0, .slice B5 (nd.seps.length - (j + 1)) d5, .slice B4 (nd.kids.length - (j + 1)) d4] rfl rfl 54 zero7 hg info54 rfl (own7r _ _ _ _ _ _ _ _ _ _ _ _ _ _ _ _ _ _ _) ?_))
  refine bodyPost_ret (results_cell_row rfl _ _ (w.heap.size + 1) 54 #[.slice none 0 0, .slice B2 (j) d2, .slice B1 (j + 1) d1, .string nd.seps[j], .slice none 0 0, .slice B5 (nd.seps.length - (j + 1)) d5, .slice B4 (nd.kids.length - (j + 1)) d4] (0, 0) _ rfl (setRow_block _ _ _ _ _ _ hg) Try.underlying54 rfl info54) rfl ?_
  have e1 : halvesL nd (j + 1) = ⟨[], ST, KT⟩ := by rw [halvesL, if_neg HK0.out, Nat.add_sub_cancel, HST.out, HKT.out]
  have e2 : halvesR nd (j + 1) = ⟨[], SD, KD⟩ := by rw [halvesR, if_neg HK0.out, HSD.out, HKD.out]
  have e3 : halvesS nd (j + 1) = nd.seps[j] := by rw [halvesS, if_neg HK0.out, Nat.add_sub_cancel, List.getElem?_eq_getElem h2]; rfl
  rw [e1, e2, e3]
  have l1 := branch_own ST KT (show w.heap.size ≤ w0.heap.size by have := cut_size HB0.out; omega) (show w.heap.size ≤ W1.heap.size by have := cut_size HB1.out; omega) (by rw [L1.out]; exact HP1.out) (by rw [L3.out]; exact HP3.out) (fun q hq => by rw [← HKT.out] at hq; exact HN.out.kk q (List.mem_of_mem_take hq)) (fun q hq => by rw [← HST.out] at hq; exact HN.out.sk q (List.mem_of_mem_take hq)) (by rw [L1.out]; exact own_setRow_other HO1''''.out hg (by decide) #[.slice none 0 0, .slice B2 (j) d2, .slice B1 (j + 1) d1, .string nd.seps[j], .slice none 0 0, .slice B5 (nd.seps.length - (j + 1)) d5, .slice B4 (nd.kids.length - (j + 1)) d4]) (by rw [L3.out]; exact own_setRow_other HO2'''.out hg (by decide) #[.slice none 0 0, .slice B2 (j) d2, .slice B1 (j + 1) d1, .string nd.seps[j], .slice none 0 0, .slice B5 (nd.seps.length - (j + 1)) d5, .slice B4 (nd.kids.length - (j + 1)) d4])
  have l2 := branch_own SD KD (show w.heap.size ≤ W3.heap.size by have := cut_size HB3.out; omega) (show w.heap.size ≤ W4.heap.size by have := cut_size HB4.out; omega) (by rw [L2.out]; exact HP2.out) (by rw [L4.out]; exact HP4.out) (fun q hq => by rw [← HKD.out] at hq; exact HN.out.kk q (List.mem_of_mem_drop hq)) (fun q hq => by rw [← HSD.out] at hq; exact HN.out.sk q (List.mem_of_mem_drop hq)) (by rw [L2.out]; exact own_setRow_other HO4'.out hg (by decide) #[.slice none 0 0, .slice B2 (j) d2, .slice B1 (j + 1) d1, .string nd.seps[j], .slice none 0 0, .slice B5 (nd.seps.length - (j + 1)) d5, .slice B4 (nd.kids.length - (j + 1)) d4]) (by rw [L4.out]; exact own_setRow_other HO5.out hg (by decide) #[.slice none 0 0, .slice B2 (j) d2, .slice B1 (j + 1) d1, .string nd.seps[j], .slice none 0 0, .slice B5 (nd.seps.length - (j + 1)) d5, .slice B4 (nd.kids.length - (j + 1)) d4])
  refine ⟨⟨⟨none, 0, B2, d2, B1, d1⟩, ⟨none, 0, B5, d5, B4, d4⟩, ?_, l1, l2⟩, below_setRow (cut_below HB5.out) (by omega) _⟩
  exact ret_eq (by show _ = Value.agg #[.slice none 0 0, .slice B2 ST.length d2, .slice B1 KT.length d1, .string _, .slice none 0 0, .slice B5 SD.length d5, .slice B4 KD.length d4]; rw [L1.out, L2.out, L3.out, L4.out])

end Go.Proofs.Ytajkoeodabmgeaa
end

section
namespace Go.Proofs.Ytajkoeodabmgeaa
open Go.RowKit
set_option maxHeartbeats 4000000
set_option maxRecDepth 100000
attribute [local go_sem] grow_cell grow_frozen grow_size

theorem refCut_c (A0 A1 A2 : Option Addr) (c0 c1 c2 : Nat) (nd : NodeD) (k : Nat) (w : World) (hN : RdN w A0 c0 A1 c1 A2 c2 nd) (h : cutOk nd k) (hl : nd.kids.length = 0 → nd.seps.length = 0) :
    Calls Try.prog 71 #[vN A0 c0 A1 c1 A2 c2 nd, .int .i64 k] w fun e w' =>
      (∃ x y : VH, e = .returned (vH x (halvesL nd k) (halvesS nd k) y (halvesR nd k)) ∧ VH.own x w' w.heap.size w'.heap.size (halvesL nd k) ∧ VH.own y w' w.heap.size w'.heap.size (halvesR nd k)) ∧ Below w.heap.size w w' := by
  unfold cutOk at h
  by_cases hk : nd.kids.length = 0
  · rw [if_pos hk] at h
    obtain ⟨j, rfl⟩ : ∃ j, k = j + 1 := ⟨k - 1, by omega⟩
    exact refCut_leaf A0 A1 A2 c0 c1 c2 nd j w hN ⟨hl hk, hk⟩ (by omega)
  · rw [if_neg hk] at h
    obtain ⟨j, rfl⟩ : ∃ j, k = j + 1 := ⟨k - 1, by omega⟩
    exact refCut_branch A0 A1 A2 c0 c1 c2 nd j w hN hk (by omega) (by omega)

theorem refCut_v (A0 A1 A2 : Option Addr) (c0 c1 c2 : Nat) (nd : NodeD) (k : Nat) (w : World) (i : Int) (hi : i = (k : Int)) (hN : RdN w A0 c0 A1 c1 A2 c2 nd) (h : cutOk nd k) (hl : nd.kids.length = 0 → nd.seps.length = 0) :
    Calls Try.prog 71 #[vN A0 c0 A1 c1 A2 c2 nd, .int .i64 i] w fun e w' =>
      (∃ x y : VH, e = .returned (vH x (halvesL nd k) (halvesS nd k) y (halvesR nd k)) ∧ VH.own x w' w.heap.size w'.heap.size (halvesL nd k) ∧ VH.own y w' w.heap.size w'.heap.size (halvesR nd k)) ∧ Below w.heap.size w w' := by
  subst hi; exact refCut_c A0 A1 A2 c0 c1 c2 nd k w hN h hl

theorem info51 : (Try.prog.info? 51).map (fun i => (i.zero, i.size, i.bytes)) = some (some (.agg #[.int .i64 0, .int .i64 0, .int .i64 0]), 3, 24) := by kernel_rfl
def cutCells (pg wd : Int) (nd : NodeD) (k : Nat) : List Value := [.int .i64 k, .int .i64 (sizeE pg wd (halvesL nd k)), .int .i64 (sizeE pg wd (halvesR nd k))]
def cutsCells (pg wd : Int) (nd : NodeD) (l : List Nat) : List Value := l.flatMap (cutCells pg wd nd)
theorem cutsCells_snoc (pg wd : Int) (nd : NodeD) (l : List Nat) (k : Nat) : cutsCells pg wd nd (l ++ [k]) = cutsCells pg wd nd l ++ cutCells pg wd nd k := by simp [cutsCells]
theorem one_cut (W : World) (a b c : Int) (g : Nat) (hg : g = W.heap.size) : Rd (W.alloc (.cells #[.int .i64 a, .int .i64 b, .int .i64 c] 51)) 3 (some ⟨g, 0, none⟩) 1 [.int .i64 a, .int .i64 b, .int .i64 c] :=
  ⟨rfl, fun _ => ⟨g, 0, rfl, fun j u hu => by
    subst hg
    rw [Nat.zero_add, cell_of_row _ _ j _ _ _ (heap_alloc_new W _), ← hu]
    simp⟩⟩
def upF (f k : Nat) : List Nat := (List.range k).map (f + ·)
theorem upF_succ (f k : Nat) : upF f (k + 1) = upF f k ++ [f + k] := by simp [upF, List.range_succ]
theorem refSize_v (pg wd : Int) (A0 A1 A2 : Option Addr) (c0 c1 c2 : Nat) (nd : NodeD) (w : World) (hN : RdN w A0 c0 A1 c1 A2 c2 nd) (v : Int) (hv : sizeE pg wd nd = v) :
    Calls Try.prog 72 #[vF pg wd, vN A0 c0 A1 c1 A2 c2 nd] w fun e w' => e = .returned (.int .i64 v) ∧ Below w.heap.size w w' := by
  subst hv; exact refSize_c pg wd A0 A1 A2 c0 c1 c2 nd w hN

theorem refCuts_none (pg wd : Int) (A0 A1 A2 : Option Addr) (c0 c1 c2 : Nat) (nd : NodeD) (w : World) (hN : RdN w A0 c0 A1 c1 A2 c2 nd) (hc : checkE pg wd nd ≠ 0) :
    Calls Try.prog 30 #[vF pg wd, vN A0 c0 A1 c1 A2 c2 nd] w fun e w' =>
      (∃ A c, e = .returned (.slice A (places pg wd nd).length c) ∧ w'.ownsRow w.heap.size 51 3 (.slice A (places pg wd nd).length c) (places pg wd nd).length (cutsCells pg wd nd (places pg wd nd))) ∧ Below w.heap.size w w' := by
  have hp : places pg wd nd = [] := by rw [places, if_neg hc]
  have HN := Lib.hid hN
  have hcc : (checkE pg wd nd != 0) = true := by simp [hc]
  rw [hp]
  clear hN hc hp
  obtain ⟨E, hE⟩ : ∃ E, checkE pg wd nd = E := ⟨_, rfl⟩
  rw [hE] at hcc
  have HE := Lib.hid hE
  clear hE
  go_enter Try.func30, Try.ntmps30
  go_wp2_with (first
    | (go_at_call 69; refine (refCheck_v pg wd A0 A1 A2 c0 c1 c2 nd _ (HN.out.below law2_base) _ HE.out).mono ?_; rintro e w1 ⟨rfl, hb1⟩))
  go_ret
  exact ⟨⟨none, 0, rfl, World.ownsRow_nil _ _ _ _⟩, law2_below (hb1.mono (by simp))⟩

theorem refCuts_leaf (pg wd : Int) (A0 A1 A2 : Option Addr) (c0 c1 c2 : Nat) (nd : NodeD) (w : World) (hN : RdN w A0 c0 A1 c1 A2 c2 nd) (hc : checkE pg wd nd = 0) (hl : leafD nd) :
    Calls Try.prog 30 #[vF pg wd, vN A0 c0 A1 c1 A2 c2 nd] w fun e w' =>
      (∃ A c, e = .returned (.slice A (places pg wd nd).length c) ∧ w'.ownsRow w.heap.size 51 3 (.slice A (places pg wd nd).length c) (places pg wd nd).length (cutsCells pg wd nd (places pg wd nd))) ∧ Below w.heap.size w w' := by
  have hk : nd.kids.length = 0 := hl.2
  have hcu : cutsN nd = nd.pairs.length - 1 := by rw [cutsN, if_pos hk]
  have hfi : firstN nd = 1 := by rw [firstN, if_pos hk]
  have hpl : places pg wd nd = upF 1 (cutsN nd) := by rw [places, if_pos hc, hfi]; rfl
  have hlen : (upF 1 (cutsN nd)).length = cutsN nd := by simp [upF]
  have hsh := (checkE_zero hc).2
  have hok : ∀ j, j < cutsN nd → cutOk nd (1 + j) := fun j hj => hfi ▸ shaped_cut hsh j hj
  have hpb : nd.pairs.length * 32 ≤ 140737488355328 := hN.hp
  rw [hpl, hlen]
  have HOK := Lib.hid hok
  have HCU := Lib.hid hcu
  have HN := Lib.hid hN
  have HC := Lib.hid hc
  have HKL : Hid (nd.kids.length = 0 → nd.seps.length = 0) := Lib.hid (fun _ => hl.1)
  have HLf : Hid (decide (nd.seps.length = 0 ∧ nd.kids.length = 0) = true) := Lib.hid (decide_eq_true hl)
  obtain ⟨M, hM⟩ : ∃ M, cutsN nd = M := ⟨_, rfl⟩
  rw [hM] at hcu hok ⊢
  have HM := Lib.hid hM
  clear hN hc hk hl hcu hfi hpl hlen hsh hok hM
  obtain ⟨i0, hi, hz0, hz1, hz2⟩ := info_parts info51
  go_enter Try.func30, Try.ntmps30
  go_wp2_with (first
    | (go_at_call 69; go_must (refine (refCheck_v pg wd A0 A1 A2 c0 c1 c2 nd _ (HN.out.below law2_base) _ HC.out).mono ?_; rintro e w1 ⟨rfl, hb1⟩; have hB1 : Below (w.heap.size + 1 + 1) (law2W w (.int .i64 pg) (.int .i64 wd) (.slice A0 nd.pairs.length c0) (.slice A1 nd.seps.length c1) (.slice A2 nd.kids.length c2)) w1 := hb1.mono (by simp); clear hb1; obtain ⟨⟨q0, q1⟩, ⟨q2, q3, q4⟩, q5⟩ := two_boxes hB1))
    | (go_at_call 70; go_must (refine (refLeaf_c A0 A1 A2 nd.pairs.length c0 nd.seps.length c1 nd.kids.length c2 _ _ HLf.out).mono ?_; rintro e w2 ⟨rfl, hb2⟩; have hB2 := law2_next hB1 hb2; clear hb2 hB1 q0 q1 q2 q3 q4 q5; obtain ⟨⟨q0, q1⟩, ⟨q2, q3, q4⟩, q5⟩ := two_boxes hB2)))
  clear q0 q1 q2 q3 q4 q5
  go_loopw [5, 8] (fun v i wr => ∃ k : Nat, k ≤ M ∧ i = .int .i64 ((1 + k : Nat) : Int) ∧ Hid (wr.ownsRow (w.heap.size + 1 + 1) 51 3 v k (cutsCells pg wd nd (upF 1 k))) ∧ Below (w.heap.size + 1 + 1) (law2W w (.int .i64 pg) (.int .i64 wd) (.slice A0 nd.pairs.length c0) (.slice A1 nd.seps.length c1) (.slice A2 nd.kids.length c2)) wr) (fun _ i _ => (1 + M) - (intOf i).toNat)
  case atStart => exact ⟨0, Nat.zero_le _, rfl, Lib.hid (World.ownsRow_nil _ _ _ _), hB2⟩
  case round =>
    clear hB2
    obtain ⟨k, hk, rfl, hown, hB⟩ := hrel
    obtain ⟨⟨q0, q1⟩, ⟨q2, q3, q4⟩, q5⟩ := two_boxes hB
    have hcu := HCU.out
    rw [HM.out] at hcu
    by_cases hlt : k < M
    · have hle : (1 : Int) + (k : Int) ≤ (nd.pairs.length : Int) - 1 := by omega
      have hcut := Lib.hid (HOK.out k (by rw [HM.out]; exact hlt))
      have hHB := Lib.hid hB
      clear hcu
      go_wp2_with (first
        | (go_at_call 71; go_must (
           refine (refCut_v A0 A1 A2 c0 c1 c2 nd (1 + k) _ _ (by push_cast; rfl) (HN.out.below (law2_below hHB.out)) hcut.out HKL.out).mono ?_; rintro e w4 ⟨⟨x, y, rfl, hx, hy⟩, hb4⟩
           have hB4 := Lib.hid (law2_next hHB.out hb4)
           have hX := Lib.hid (OwN.rd hx)
           have hY := Lib.hid (OwN.rd hy)
           have hO4 := Lib.hid (own_below hown.out hb4)
           clear hx hy hb4 q0 q1 q2 q3 q4 q5)))
      have hbytes : (k + 1) * 24 ≤ 140737488355328 := by have := HCU.out; rw [HM.out] at this; omega
      have HBY := Lib.hid hbytes
      clear hbytes
      obtain ⟨a, ha⟩ : ∃ a, sizeE pg wd (halvesL nd (1 + k)) = a := ⟨_, rfl⟩
      obtain ⟨b, hb⟩ : ∃ b, sizeE pg wd (halvesR nd (1 + k)) = b := ⟨_, rfl⟩
      have hcells : cutCells pg wd nd (1 + k) = [.int .i64 (1 + (k : Int)), .int .i64 a, .int .i64 b] := by rw [cutCells, ha, hb]; push_cast; rfl
      have HCE := Lib.hid hcells
      have HA := Lib.hid ha
      have HBb := Lib.hid hb
      clear ha hb hcells
      generalize halvesL nd (1 + k) = HLv at *
      generalize halvesR nd (1 + k) = HRv at *
      generalize halvesS nd (1 + k) = s at *
      have HS0 : Hid (Below (w.heap.size + 1 + 1) (law2W w (.int .i64 pg) (.int .i64 wd) (.slice A0 nd.pairs.length c0) (.slice A1 nd.seps.length c1) (.slice A2 nd.kids.length c2)) (w4.alloc (.cells (cells7 x HLv s y HRv) 54)) ∧ (w4.alloc (.cells (cells7 x HLv s y HRv) 54)).heap[w4.heap.size]? = some (.cells (cells7 x HLv s y HRv) 54 (0, 0))) :=
        Lib.hid ⟨hB4.out.alloc (law2_size hB4.out) _, heap_alloc_new _ _⟩
      refine wp_region_sched (S := fun W => Below (w.heap.size + 1 + 1) (law2W w (.int .i64 pg) (.int .i64 wd) (.slice A0 nd.pairs.length c0) (.slice A1 nd.seps.length c1) (.slice A2 nd.kids.length c2)) W ∧ W.heap[w4.heap.size]? = some (.cells (cells7 x HLv s y HRv) 54 (0, 0))) [(0, true), (1, true), (2, true), (3, true), (4, true), (6, true), (7, true), (8, true), (5, false), (9, false), (10, true), (11, false), (12, false), (13, true)] (by kernel_rfl) (by kernel_rfl) (by kernel_rfl) (fun _ _ d _ _ h => by cases d <;> exact h) (show _ ∧ _ from ⟨HS0.out.1.drew, HS0.out.2⟩) ?_
      repeat (apply sched_take; (exact rfl); rfl; (intro W hW; obtain ⟨⟨q0, q1⟩, _⟩ := two_boxes hW.1; obtain ⟨⟨r0, r1, r2⟩, r4, r5, r6⟩ := box7 hW.2; go_simp; (try with_reducible rfl)); simp only [Act.put, List.setIfInBounds_toArray, List.set_cons_zero, List.set_cons_succ])
      apply sched_run; (exact rfl); rfl; intro K hK; go_simp
      refine (refSize_v pg wd x.A0 x.A1 x.A2 x.c0 x.c1 x.c2 HLv _ ((hX.out.below ((Below.refl _ _).alloc (Nat.le_refl _) _)).below (Below.refl _ _).drew) _ HA.out).mono ?_
      rintro e w5 ⟨rfl, hb5⟩
      have hg4 : w4.heap.size < (w4.alloc (.cells (cells7 x HLv s y HRv) 54)).drew.heap.size := by simp [World.drew]
      have hb45 : Below w4.heap.size w4 w5 := (((Below.refl w4.heap.size w4).alloc (Nat.le_refl _) (.cells (cells7 x HLv s y HRv) 54)).drew).trans (hb5.mono (by simp [World.drew]))
      have hS5 : Below (w.heap.size + 1 + 1) (law2W w (.int .i64 pg) (.int .i64 wd) (.slice A0 nd.pairs.length c0) (.slice A1 nd.seps.length c1) (.slice A2 nd.kids.length c2)) w5 ∧ w5.heap[w4.heap.size]? = some (.cells (cells7 x HLv s y HRv) 54 (0, 0)) := ⟨law2_next hB4.out hb45, (hb5.block _ hg4).trans HS0.out.2⟩
      refine hK.out _ _ hS5 (fun _ => ?_)
      clear hK K
      try simp only [Act.put, List.setIfInBounds_toArray, List.set_cons_zero, List.set_cons_succ]
      apply sched_run; (exact rfl); rfl; intro K hK; go_simp
      refine (refSize_v pg wd y.A0 y.A1 y.A2 y.c0 y.c1 y.c2 HRv _ (hY.out.below hb45) _ HBb.out).mono ?_
      rintro e w6 ⟨rfl, hb6⟩
      have hS6 : Below (w.heap.size + 1 + 1) (law2W w (.int .i64 pg) (.int .i64 wd) (.slice A0 nd.pairs.length c0) (.slice A1 nd.seps.length c1) (.slice A2 nd.kids.length c2)) w6 ∧ w6.heap[w4.heap.size]? = some (.cells (cells7 x HLv s y HRv) 54 (0, 0)) := ⟨law2_next hS5.1 hb6, (hb6.block _ (Array.getElem?_eq_some_iff.1 hS5.2).1).trans hS5.2⟩
      refine hK.out _ _ hS6 (fun _ => ?_)
      clear hK K
      try simp only [Act.put, List.setIfInBounds_toArray, List.set_cons_zero, List.set_cons_succ]
      repeat (apply sched_take; (exact rfl); rfl; (intro W hW; go_simp; (try with_reducible rfl)); simp only [Act.put, List.setIfInBounds_toArray, List.set_cons_zero, List.set_cons_succ])
      have hb46 := hb45.trans (hb6.mono hb45.size)
      have hO6 := own_below hO4.out hb46
      apply sched_run; (exact rfl); rfl; intro K hK; go_simp
      have hS7 : Below (w.heap.size + 1 + 1) (law2W w (.int .i64 pg) (.int .i64 wd) (.slice A0 nd.pairs.length c0) (.slice A1 nd.seps.length c1) (.slice A2 nd.kids.length c2)) (w6.alloc (.cells #[.int .i64 (1 + (k : Int)), .int .i64 a, .int .i64 b] 51)) ∧ (w6.alloc (.cells #[.int .i64 (1 + (k : Int)), .int .i64 a, .int .i64 b] 51)).heap[w4.heap.size]? = some (.cells (cells7 x HLv s y HRv) 54 (0, 0)) :=
        ⟨hS6.1.alloc (law2_size hS6.1) _, (Below.heap_alloc _ _ _ (by have := (Array.getElem?_eq_some_iff.1 hS6.2).1; omega)).trans hS6.2⟩
      refine hK.out _ _ hS7 (fun _ => ?_)
      clear hK K
      try simp only [Act.put, List.setIfInBounds_toArray, List.set_cons_zero, List.set_cons_succ]
      apply sched_run; (exact rfl); rfl; intro K hK
      have hO7 := own_below hO6 ((Below.refl w6.heap.size w6).alloc (Nat.le_refl _) (.cells #[.int .i64 (1 + (k : Int)), .int .i64 a, .int .i64 b] 51))
      refine wp_append_rd (.tmp 35) (.tmp 46) 44 rfl (w.heap.size + 1 + 1) 51 Try.underlying44 hi hz0 hz1 hz2 rfl (by decide) rfl hO7 rfl (one_cut w6 _ _ _ _ rfl) (by simp [Value.oneCell']) HBY.out (by decide) (law2_size hS7.1) ?_
      intro v1 w8 hown8 hg8 _
      have hb8 := (Below.refl (w.heap.size + 1 + 1) (w6.alloc (.cells #[.int .i64 (1 + (k : Int)), .int .i64 a, .int .i64 b] 51))).grown hg8 (law2_size hS7.1) (fun k e => (hO7.lt k e).1)
      have hS8 : Below (w.heap.size + 1 + 1) (law2W w (.int .i64 pg) (.int .i64 wd) (.slice A0 nd.pairs.length c0) (.slice A1 nd.seps.length c1) (.slice A2 nd.kids.length c2)) w8 := hS7.1.trans hb8
      refine hK.out _ _ ⟨hS8, (hg8.block _ (Array.getElem?_eq_some_iff.1 hS7.2).1 (fun h => own_ne_block hO7 hS7.2 (by decide) h.symm)).trans hS7.2⟩ (fun _ => ?_)
      clear hK K
      try simp only [Act.put, List.setIfInBounds_toArray, List.set_cons_zero, List.set_cons_succ]
      repeat (apply sched_take; (exact rfl); rfl; (intro W hW; go_simp; (try with_reducible rfl)); simp only [Act.put, List.setIfInBounds_toArray, List.set_cons_zero, List.set_cons_succ])
      have HO8 := Lib.hid hown8
      have HS8 := Lib.hid hS8
      clear hown8 hS8 hg8 hb8 hO7 hS7 hO6 hb46 hS6 hS5 hb45 hb5 hb6 hg4 HS0
      refine sched_done ?_
      go_wp2
      go_roundw
      case rel => exact ⟨k + 1, by omega, by go_num, Lib.hid (by rw [upF_succ, cutsCells_snoc, HCE.out]; exact HO8.out), HS8.out⟩
      case measure => simp [intOf]; omega
    · obtain rfl : k = M := by omega
      have hgt : ¬ ((1 : Int) + (k : Int) ≤ (nd.pairs.length : Int) - 1) := by omega
      obtain ⟨Ak, ck, rfl, _, _⟩ := own_rd hown.out
      clear hcu
      go_wp2
      go_ret
      exact ⟨⟨Ak, ck, rfl, ownsRow_mono' hown.out (by omega)⟩, law2_below hB⟩

theorem refCuts_branch (pg wd : Int) (A0 A1 A2 : Option Addr) (c0 c1 c2 : Nat) (nd : NodeD) (w : World) (hN : RdN w A0 c0 A1 c1 A2 c2 nd) (hc : checkE pg wd nd = 0) (hl : ¬ nd.kids.length = 0) :
    Calls Try.prog 30 #[vF pg wd, vN A0 c0 A1 c1 A2 c2 nd] w fun e w' =>
      (∃ A c, e = .returned (.slice A (places pg wd nd).length c) ∧ w'.ownsRow w.heap.size 51 3 (.slice A (places pg wd nd).length c) (places pg wd nd).length (cutsCells pg wd nd (places pg wd nd))) ∧ Below w.heap.size w w' := by
  have hk : ¬ nd.kids.length = 0 := hl
  have hcu : cutsN nd = nd.kids.length - 3 := by rw [cutsN, if_neg hk]
  have hfi : firstN nd = 2 := by rw [firstN, if_neg hk]
  have hpl : places pg wd nd = upF 2 (cutsN nd) := by rw [places, if_pos hc, hfi]; rfl
  have hlen : (upF 2 (cutsN nd)).length = cutsN nd := by simp [upF]
  have hsh := (checkE_zero hc).2
  have hok : ∀ j, j < cutsN nd → cutOk nd (2 + j) := fun j hj => hfi ▸ shaped_cut hsh j hj
  have hpb : nd.kids.length * 36 ≤ 140737488355328 := hN.hk
  rw [hpl, hlen]
  have HOK := Lib.hid hok
  have HCU := Lib.hid hcu
  have HN := Lib.hid hN
  have HC := Lib.hid hc
  have HKL : Hid (nd.kids.length = 0 → nd.seps.length = 0) := Lib.hid (fun h => absurd h hl)
  have HLf : Hid (decide (nd.seps.length = 0 ∧ nd.kids.length = 0) = false) := Lib.hid (decide_eq_false fun h => hl h.2)
  obtain ⟨M, hM⟩ : ∃ M, cutsN nd = M := ⟨_, rfl⟩
  rw [hM] at hcu hok ⊢
  have HM := Lib.hid hM
  clear hN hc hk hl hcu hfi hpl hlen hsh hok hM
  obtain ⟨i0, hi, hz0, hz1, hz2⟩ := info_parts info51
  go_enter Try.func30, Try.ntmps30
  go_wp2_with (first
    | (go_at_call 69; go_must (refine (refCheck_v pg wd A0 A1 A2 c0 c1 c2 nd _ (HN.out.below law2_base) _ HC.out).mono ?_; rintro e w1 ⟨rfl, hb1⟩; have hB1 : Below (w.heap.size + 1 + 1) (law2W w (.int .i64 pg) (.int .i64 wd) (.slice A0 nd.pairs.length c0) (.slice A1 nd.seps.length c1) (.slice A2 nd.kids.length c2)) w1 := hb1.mono (by simp); clear hb1; obtain ⟨⟨q0, q1⟩, ⟨q2, q3, q4⟩, q5⟩ := two_boxes hB1))
    | (go_at_call 70; go_must (refine (refLeaf_c A0 A1 A2 nd.pairs.length c0 nd.seps.length c1 nd.kids.length c2 _ _ HLf.out).mono ?_; rintro e w2 ⟨rfl, hb2⟩; have hB2 := law2_next hB1 hb2; clear hb2 hB1 q0 q1 q2 q3 q4 q5; obtain ⟨⟨q0, q1⟩, ⟨q2, q3, q4⟩, q5⟩ := two_boxes hB2)))
  clear q0 q1 q2 q3 q4 q5
  go_loopw [5, 8] (fun v i wr => ∃ k : Nat, k ≤ M ∧ i = .int .i64 ((2 + k : Nat) : Int) ∧ Hid (wr.ownsRow (w.heap.size + 1 + 1) 51 3 v k (cutsCells pg wd nd (upF 2 k))) ∧ Below (w.heap.size + 1 + 1) (law2W w (.int .i64 pg) (.int .i64 wd) (.slice A0 nd.pairs.length c0) (.slice A1 nd.seps.length c1) (.slice A2 nd.kids.length c2)) wr) (fun _ i _ => (2 + M) - (intOf i).toNat)
  case atStart => exact ⟨0, Nat.zero_le _, rfl, Lib.hid (World.ownsRow_nil _ _ _ _), hB2⟩
  case round =>
    clear hB2
    obtain ⟨k, hk, rfl, hown, hB⟩ := hrel
    obtain ⟨⟨q0, q1⟩, ⟨q2, q3, q4⟩, q5⟩ := two_boxes hB
    have hcu := HCU.out
    rw [HM.out] at hcu
    by_cases hlt : k < M
    · have hle : (2 : Int) + (k : Int) ≤ (nd.kids.length : Int) - 2 := by omega
      have hcut := Lib.hid (HOK.out k (by rw [HM.out]; exact hlt))
      have hHB := Lib.hid hB
      clear hcu
      go_wp2_with (first
        | (go_at_call 71; go_must (
           refine (refCut_v A0 A1 A2 c0 c1 c2 nd (2 + k) _ _ (by push_cast; rfl) (HN.out.below (law2_below hHB.out)) hcut.out HKL.out).mono ?_; rintro e w4 ⟨⟨x, y, rfl, hx, hy⟩, hb4⟩
           have hB4 := Lib.hid (law2_next hHB.out hb4)
           have hX := Lib.hid (OwN.rd hx)
           have hY := Lib.hid (OwN.rd hy)
           have hO4 := Lib.hid (own_below hown.out hb4)
           clear hx hy hb4 q0 q1 q2 q3 q4 q5)))
      have hbytes : (k + 1) * 24 ≤ 140737488355328 := by have := HCU.out; rw [HM.out] at this; omega
      have HBY := Lib.hid hbytes
      clear hbytes
      obtain ⟨a, ha⟩ : ∃ a, sizeE pg wd (halvesL nd (2 + k)) = a := ⟨_, rfl⟩
      obtain ⟨b, hb⟩ : ∃ b, sizeE pg wd (halvesR nd (2 + k)) = b := ⟨_, rfl⟩
      have hcells : cutCells pg wd nd (2 + k) = [.int .i64 (2 + (k : Int)), .int .i64 a, .int .i64 b] := by rw [cutCells, ha, hb]; push_cast; rfl
      have HCE := Lib.hid hcells
      have HA := Lib.hid ha
      have HBb := Lib.hid hb
      clear ha hb hcells
      generalize halvesL nd (2 + k) = HLv at *
      generalize halvesR nd (2 + k) = HRv at *
      generalize halvesS nd (2 + k) = s at *
      have HS0 : Hid (Below (w.heap.size + 1 + 1) (law2W w (.int .i64 pg) (.int .i64 wd) (.slice A0 nd.pairs.length c0) (.slice A1 nd.seps.length c1) (.slice A2 nd.kids.length c2)) (w4.alloc (.cells (cells7 x HLv s y HRv) 54)) ∧ (w4.alloc (.cells (cells7 x HLv s y HRv) 54)).heap[w4.heap.size]? = some (.cells (cells7 x HLv s y HRv) 54 (0, 0))) :=
        Lib.hid ⟨hB4.out.alloc (law2_size hB4.out) _, heap_alloc_new _ _⟩
      refine wp_region_sched (S := fun W => Below (w.heap.size + 1 + 1) (law2W w (.int .i64 pg) (.int .i64 wd) (.slice A0 nd.pairs.length c0) (.slice A1 nd.seps.length c1) (.slice A2 nd.kids.length c2)) W ∧ W.heap[w4.heap.size]? = some (.cells (cells7 x HLv s y HRv) 54 (0, 0))) [(0, true), (1, true), (2, true), (3, true), (4, true), (6, true), (7, true), (8, true), (5, false), (9, false), (10, true), (11, false), (12, false), (13, true)] (by kernel_rfl) (by kernel_rfl) (by kernel_rfl) (fun _ _ d _ _ h => by cases d <;> exact h) (show _ ∧ _ from ⟨HS0.out.1.drew, HS0.out.2⟩) ?_
      repeat (apply sched_take; (exact rfl); rfl; (intro W hW; obtain ⟨⟨q0, q1⟩, _⟩ := two_boxes hW.1; obtain ⟨⟨r0, r1, r2⟩, r4, r5, r6⟩ := box7 hW.2; go_simp; (try with_reducible rfl)); simp only [Act.put, List.setIfInBounds_toArray, List.set_cons_zero, List.set_cons_succ])
      apply sched_run; (exact rfl); rfl; intro K hK; go_simp
      refine (refSize_v pg wd x.A0 x.A1 x.A2 x.c0 x.c1 x.c2 HLv _ ((hX.out.below ((Below.refl _ _).alloc (Nat.le_refl _) _)).below (Below.refl _ _).drew) _ HA.out).mono ?_
      rintro e w5 ⟨rfl, hb5⟩
      have hg4 : w4.heap.size < (w4.alloc (.cells (cells7 x HLv s y HRv) 54)).drew.heap.size := by simp [World.drew]
      have hb45 : Below w4.heap.size w4 w5 := (((Below.refl w4.heap.size w4).alloc (Nat.le_refl _) (.cells (cells7 x HLv s y HRv) 54)).drew).trans (hb5.mono (by simp [World.drew]))
      have hS5 : Below (w.heap.size + 1 + 1) (law2W w (.int .i64 pg) (.int .i64 wd) (.slice A0 nd.pairs.length c0) (.slice A1 nd.seps.length c1) (.slice A2 nd.kids.length c2)) w5 ∧ w5.heap[w4.heap.size]? = some (.cells (cells7 x HLv s y HRv) 54 (0, 0)) := ⟨law2_next hB4.out hb45, (hb5.block _ hg4).trans HS0.out.2⟩
      refine hK.out _ _ hS5 (fun _ => ?_)
      clear hK K
      try simp only [Act.put, List.setIfInBounds_toArray, List.set_cons_zero, List.set_cons_succ]
      apply sched_run; (exact rfl); rfl; intro K hK; go_simp
      refine (refSize_v pg wd y.A0 y.A1 y.A2 y.c0 y.c1 y.c2 HRv _ (hY.out.below hb45) _ HBb.out).mono ?_
      rintro e w6 ⟨rfl, hb6⟩
      have hS6 : Below (w.heap.size + 1 + 1) (law2W w (.int .i64 pg) (.int .i64 wd) (.slice A0 nd.pairs.length c0) (.slice A1 nd.seps.length c1) (.slice A2 nd.kids.length c2)) w6 ∧ w6.heap[w4.heap.size]? = some (.cells (cells7 x HLv s y HRv) 54 (0, 0)) := ⟨law2_next hS5.1 hb6, (hb6.block _ (Array.getElem?_eq_some_iff.1 hS5.2).1).trans hS5.2⟩
      refine hK.out _ _ hS6 (fun _ => ?_)
      clear hK K
      try simp only [Act.put, List.setIfInBounds_toArray, List.set_cons_zero, List.set_cons_succ]
      repeat (apply sched_take; (exact rfl); rfl; (intro W hW; go_simp; (try with_reducible rfl)); simp only [Act.put, List.setIfInBounds_toArray, List.set_cons_zero, List.set_cons_succ])
      have hb46 := hb45.trans (hb6.mono hb45.size)
      have hO6 := own_below hO4.out hb46
      apply sched_run; (exact rfl); rfl; intro K hK; go_simp
      have hS7 : Below (w.heap.size + 1 + 1) (law2W w (.int .i64 pg) (.int .i64 wd) (.slice A0 nd.pairs.length c0) (.slice A1 nd.seps.length c1) (.slice A2 nd.kids.length c2)) (w6.alloc (.cells #[.int .i64 (2 + (k : Int)), .int .i64 a, .int .i64 b] 51)) ∧ (w6.alloc (.cells #[.int .i64 (2 + (k : Int)), .int .i64 a, .int .i64 b] 51)).heap[w4.heap.size]? = some (.cells (cells7 x HLv s y HRv) 54 (0, 0)) :=
        ⟨hS6.1.alloc (law2_size hS6.1) _, (Below.heap_alloc _ _ _ (by have := (Array.getElem?_eq_some_iff.1 hS6.2).1; omega)).trans hS6.2⟩
      refine hK.out _ _ hS7 (fun _ => ?_)
      clear hK K
      try simp only [Act.put, List.setIfInBounds_toArray, List.set_cons_zero, List.set_cons_succ]
      apply sched_run; (exact rfl); rfl; intro K hK
      have hO7 := own_below hO6 ((Below.refl w6.heap.size w6).alloc (Nat.le_refl _) (.cells #[.int .i64 (2 + (k : Int)), .int .i64 a, .int .i64 b] 51))
      refine wp_append_rd (.tmp 35) (.tmp 46) 44 rfl (w.heap.size + 1 + 1) 51 Try.underlying44 hi hz0 hz1 hz2 rfl (by decide) rfl hO7 rfl (one_cut w6 _ _ _ _ rfl) (by simp [Value.oneCell']) HBY.out (by decide) (law2_size hS7.1) ?_
      intro v1 w8 hown8 hg8 _
      have hb8 := (Below.refl (w.heap.size + 1 + 1) (w6.alloc (.cells #[.int .i64 (2 + (k : Int)), .int .i64 a, .int .i64 b] 51))).grown hg8 (law2_size hS7.1) (fun k e => (hO7.lt k e).1)
      have hS8 : Below (w.heap.size + 1 + 1) (law2W w (.int .i64 pg) (.int .i64 wd) (.slice A0 nd.pairs.length c0) (.slice A1 nd.seps.length c1) (.slice A2 nd.kids.length c2)) w8 := hS7.1.trans hb8
      refine hK.out _ _ ⟨hS8, (hg8.block _ (Array.getElem?_eq_some_iff.1 hS7.2).1 (fun h => own_ne_block hO7 hS7.2 (by decide) h.symm)).trans hS7.2⟩ (fun _ => ?_)
      clear hK K
      try simp only [Act.put, List.setIfInBounds_toArray, List.set_cons_zero, List.set_cons_succ]
      repeat (apply sched_take; (exact rfl); rfl; (intro W hW; go_simp; (try with_reducible rfl)); simp only [Act.put, List.setIfInBounds_toArray, List.set_cons_zero, List.set_cons_succ])
      have HO8 := Lib.hid hown8
      have HS8 := Lib.hid hS8
      clear hown8 hS8 hg8 hb8 hO7 hS7 hO6 hb46 hS6 hS5 hb45 hb5 hb6 hg4 HS0
      refine sched_done ?_
      go_wp2
      go_roundw
      case rel => exact ⟨k + 1, by omega, by go_num, Lib.hid (by rw [upF_succ, cutsCells_snoc, HCE.out]; exact HO8.out), HS8.out⟩
      case measure => simp [intOf]; omega
    · obtain rfl : k = M := by omega
      have hgt : ¬ ((2 : Int) + (k : Int) ≤ (nd.kids.length : Int) - 2) := by omega
      obtain ⟨Ak, ck, rfl, _, _⟩ := own_rd hown.out
      clear hcu
      go_wp2
      go_ret
      exact ⟨⟨Ak, ck, rfl, ownsRow_mono' hown.out (by omega)⟩, law2_below hB⟩

theorem refCuts_c (pg wd : Int) (A0 A1 A2 : Option Addr) (c0 c1 c2 : Nat) (nd : NodeD) (w : World) (hN : RdN w A0 c0 A1 c1 A2 c2 nd) :
    Calls Try.prog 30 #[vF pg wd, vN A0 c0 A1 c1 A2 c2 nd] w fun e w' =>
      (∃ A c, e = .returned (.slice A (places pg wd nd).length c) ∧ w'.ownsRow w.heap.size 51 3 (.slice A (places pg wd nd).length c) (places pg wd nd).length (cutsCells pg wd nd (places pg wd nd))) ∧ Below w.heap.size w w' := by
  by_cases hc : checkE pg wd nd = 0
  · have hsh := (checkE_zero hc).2
    by_cases hk : nd.kids.length = 0
    · refine refCuts_leaf pg wd A0 A1 A2 c0 c1 c2 nd w hN hc ?_
      by_cases hl : leafD nd
      · exact hl
      · rw [shaped, if_neg hl] at hsh; omega
    · exact refCuts_branch pg wd A0 A1 A2 c0 c1 c2 nd w hN hc hk
  · exact refCuts_none pg wd A0 A1 A2 c0 c1 c2 nd w hN hc

end Go.Proofs.Ytajkoeodabmgeaa
end

section
namespace Go.Proofs.Ytajkoeodabmgeaa
open Go.RowKit
set_option maxHeartbeats 4000000
set_option maxRecDepth 100000
attribute [local go_sem] grow_cell grow_frozen grow_size

theorem larger_c (k a b : Int) (w : World) : Calls Try.prog 78 #[.agg #[.int .i64 k, .int .i64 a, .int .i64 b]] w fun e w' => e = .returned (.int .i64 (max a b)) ∧ Below w.heap.size w w' := by
  by_cases h : b < a
  · have hm : max a b = a := by omega
    rw [hm]
    clear hm
    go_enter Try.func78, Try.ntmps78
    go_wp2
    go_ret
    exact ⟨rfl, (Below.refl _ _).alloc (Nat.le_refl _) _⟩
  · have hm : max a b = b := by omega
    rw [hm]
    clear hm
    go_enter Try.func78, Try.ntmps78
    go_wp2
    go_ret
    exact ⟨rfl, (Below.refl _ _).alloc (Nat.le_refl _) _⟩
theorem larger_v (k a b m : Int) (hm : max a b = m) (w : World) : Calls Try.prog 78 #[.agg #[.int .i64 k, .int .i64 a, .int .i64 b]] w fun e w' => e = .returned (.int .i64 m) ∧ Below w.heap.size w w' := by
  subst hm; exact larger_c k a b w

theorem cuts_at {w : World} {b o : Nat} {pg wd : Int} {nd : NodeD} {l : List Nat} (h : Rd w 3 (some ⟨b, o, none⟩) l.length (cutsCells pg wd nd l)) {k : Nat} (hk : k < l.length) :
    w.cell? ⟨b, o + k * 3, none⟩ = some (.int .i64 (l[k] : Nat)) ∧ w.cell? ⟨b, o + k * 3 + 1, none⟩ = some (.int .i64 (sizeE pg wd (halvesL nd l[k]))) ∧ w.cell? ⟨b, o + k * 3 + 2, none⟩ = some (.int .i64 (sizeE pg wd (halvesR nd l[k]))) := by
  obtain ⟨b', o', e, hc⟩ := h.2 (by omega)
  cases e
  have hp := flat_get (cutCells pg wd nd) 3 l (fun _ _ => rfl) k hk
  refine ⟨?_, ?_, ?_⟩
  · exact hc (k * 3) _ (by have := hp 0 (by omega); simpa [cutsCells, cutCells] using this)
  · exact hc (k * 3 + 1) _ (by have := hp 1 (by omega); simpa [cutsCells, cutCells] using this)
  · exact hc (k * 3 + 2) _ (by have := hp 2 (by omega); simpa [cutsCells, cutCells] using this)

/-- Where the best of the first cuts stands. -/
def BestAt (pg wd : Int) (nd : NodeD) (ps : List Nat) (k bi : Nat) : Prop := ∃ h : bi < ps.length, (k = 0 → bi = 0) ∧ (0 < k → bestOf pg wd nd (ps.take k) = (ps[bi], sideM pg wd nd ps[bi]))
theorem bestAt_start {pg wd : Int} {nd : NodeD} {ps : List Nat} (h : 0 < ps.length) : BestAt pg wd nd ps 0 0 := ⟨h, fun _ => rfl, fun h => absurd h (by omega)⟩
theorem bestAt_step {pg wd : Int} {nd : NodeD} {ps : List Nat} (hp : ∀ k ∈ ps, k ≠ 0) {k bi : Nat} (h : BestAt pg wd nd ps k bi) (hk : k < ps.length) :
    ∃ hb : bi < ps.length, BestAt pg wd nd ps (k + 1) (if sideM pg wd nd ps[k] < sideM pg wd nd ps[bi] then k else bi) := by
  obtain ⟨hb, h0, h1⟩ := h
  refine ⟨hb, ?_⟩
  have hs : bestOf pg wd nd (ps.take (k + 1)) = bestStep pg wd nd (bestOf pg wd nd (ps.take k)) ps[k] := by rw [List.take_succ_eq_append_getElem hk, bestOf_snoc]
  rcases Nat.eq_zero_or_pos k with e | e
  · have hb0 := h0 e
    subst e hb0
    rw [if_neg (by omega)]
    refine ⟨hb, fun h => absurd h (by omega), fun _ => ?_⟩
    rw [hs, List.take_zero]
    exact if_pos (.inl rfl)
  · have h2 := h1 e
    have h3 : ps[bi] ≠ 0 := hp _ (List.getElem_mem hb)
    by_cases hc : sideM pg wd nd ps[k] < sideM pg wd nd ps[bi]
    · rw [if_pos hc]
      refine ⟨hk, fun h => absurd h (by omega), fun _ => ?_⟩
      rw [hs, h2]
      exact if_pos (.inr hc)
    · rw [if_neg hc]
      refine ⟨hb, fun h => absurd h (by omega), fun _ => ?_⟩
      rw [hs, h2]
      exact if_neg (fun h => h.elim h3 hc)

abbrev refSW (w : World) (a b c d e : Value) : World := ((w.alloc (.cells #[a, b] 24)).alloc (.cells #[c, d, e] 29)).alloc (.cells zero7 54)
section
variable {w w1 w2 : World} {a b c d e : Value}
theorem refS_size (h : Below (w.heap.size + 1 + 1 + 1) (refSW w a b c d e) w1) : w.heap.size + 1 + 1 + 1 ≤ w1.heap.size := by
  have := h.size; simpa [refSW] using this
theorem refS_first (hb : Below (refSW w a b c d e).heap.size (refSW w a b c d e) w1) : Below (w.heap.size + 1 + 1 + 1) (refSW w a b c d e) w1 := hb.mono (by simp [refSW])
theorem refS_next (h : Below (w.heap.size + 1 + 1 + 1) (refSW w a b c d e) w1) (hb : Below w1.heap.size w1 w2) : Below (w.heap.size + 1 + 1 + 1) (refSW w a b c d e) w2 := h.trans (hb.mono (refS_size h))
theorem refS_base : Below w.heap.size w (refSW w a b c d e) :=
  ((((Below.refl _ _).alloc (Nat.le_refl _) _).alloc (by simp) _).alloc (by simp <;> omega) _)
theorem refS_below (h : Below (w.heap.size + 1 + 1 + 1) (refSW w a b c d e) w1) : Below w.heap.size w w1 := refS_base.trans (h.mono (by omega))
theorem refS_row (h : Below (w.heap.size + 1 + 1 + 1) (refSW w a b c d e) w1) : w1.heap[w.heap.size + 1 + 1]? = some (.cells zero7 54 (0, 0)) := (h.block _ (by omega)).trans (alloc3_at w _ _ _)
theorem refS_boxes (h : Below (w.heap.size + 1 + 1) (refSW w a b c d e) w1) :
    (w1.cell? ⟨w.heap.size, 0, none⟩ = some a ∧ w1.cell? ⟨w.heap.size, 1, none⟩ = some b) ∧ (w1.cell? ⟨w.heap.size + 1, 0, none⟩ = some c ∧ w1.cell? ⟨w.heap.size + 1, 1, none⟩ = some d ∧ w1.cell? ⟨w.heap.size + 1, 2, none⟩ = some e) := by
  have h0 : w1.heap[w.heap.size]? = some (.cells #[a, b] 24 (0, 0)) := (h.block _ (by omega)).trans (alloc3_0 w _ _ _)
  have h1 : w1.heap[w.heap.size + 1]? = some (.cells #[c, d, e] 29 (0, 0)) := (h.block _ (by omega)).trans (alloc3_1 w _ _ _)
  exact ⟨⟨cell_of_row _ _ 0 _ _ _ h0, cell_of_row _ _ 1 _ _ _ h0⟩, cell_of_row _ _ 0 _ _ _ h1, cell_of_row _ _ 1 _ _ _ h1, cell_of_row _ _ 2 _ _ _ h1⟩
end

/-- What the document's Split hands back. -/
abbrev RefSplitPost (pg wd : Int) (nd : NodeD) (w : World) (e : Ending) (w' : World) : Prop :=
  (∃ x y : VH, e = .returned (.tuple #[vH x (splitL pg wd nd) (splitS pg wd nd) y (splitR pg wd nd), .int .i64 (splitE pg wd nd)]) ∧ VH.own x w' w.heap.size w'.heap.size (splitL pg wd nd) ∧ VH.own y w' w.heap.size w'.heap.size (splitR pg wd nd)) ∧ Below w.heap.size w w'
theorem refSplit_err (w w1 : World) (pg wd : Int) (nd : NodeD) (E : Int) (hE : splitE pg wd nd = E) (hne : E ≠ 0) (hb : Below w.heap.size w w1) :
    RefSplitPost pg wd nd w (Ending.returned (.tuple #[.agg zero7, .int .i64 E])) w1 := by
  have e1 : splitL pg wd nd = noN := by rw [splitL, if_neg (by omega)]
  have e2 : splitR pg wd nd = noN := by rw [splitR, if_neg (by omega)]
  have e3 : splitS pg wd nd = ⟨#[]⟩ := by rw [splitS, if_neg (by omega)]
  unfold RefSplitPost
  rw [e1, e2, e3, hE]
  exact ⟨⟨⟨none, 0, none, 0, none, 0⟩, ⟨none, 0, none, 0, none, 0⟩, rfl, own_noN _ _ _, own_noN _ _ _⟩, hb⟩

theorem refSplit_bad (pg wd : Int) (A0 A1 A2 : Option Addr) (c0 c1 c2 : Nat) (nd : NodeD) (w : World) (hN : RdN w A0 c0 A1 c1 A2 c2 nd) (h : right pg wd = false ∨ checkE pg wd nd ≠ 0 ∨ (places pg wd nd).length = 0) :
    Calls Try.prog 33 #[vF pg wd, vN A0 c0 A1 c1 A2 c2 nd] w fun e w' => RefSplitPost pg wd nd w e w' := by
  have HN := Lib.hid hN
  clear hN
  cases hr : right pg wd with
  | false =>
    have HE := Lib.hid (show splitE pg wd nd = 2 by simp [splitE, hr])
    have HRI := Lib.hid hr
    clear hr h
    go_enter Try.func33, Try.ntmps33
    go_wp2_with (first
      | (go_at_call 66; refine (refRight_v pg wd _ _ HRI.out).mono ?_; rintro e w1 ⟨rfl, hb1⟩; have hB1 := refS_first hb1; have hg := refS_row hB1; clear hb1)
      | (refine wpList_store_row rfl 54 (.tmp 4) (.tmp 12) rfl (w.heap.size + 1 + 1) zero7 rfl rfl 54 zero7 hg info54 rfl zero7_one ?_))
    refine bodyPost_ret (results_ct rfl _ _ (w.heap.size + 1 + 1) 54 zero7 (0, 0) _ rfl (setRow_block _ _ _ _ _ _ hg) Try.underlying54 rfl info54) rfl ?_
    exact refSplit_err w _ pg wd nd 2 HE.out (by decide) (below_setRow (refS_below hB1) (by omega) _)
  | true =>
    by_cases hc : checkE pg wd nd = 0
    · have hpl : (places pg wd nd).length = 0 := (h.resolve_left (by simp [hr])).resolve_left (fun h => h hc)
      have hp0 := List.eq_nil_of_length_eq_zero hpl
      have HE := Lib.hid (show splitE pg wd nd = 82 by simp [splitE, hr, hc, splitAt', hp0, bestOf])
      have HRI := Lib.hid hr
      have HC := Lib.hid hc
      have HCU : Hid (∀ w, RdN w A0 c0 A1 c1 A2 c2 nd → Calls Try.prog 30 #[vF pg wd, vN A0 c0 A1 c1 A2 c2 nd] w fun e w' => (∃ A c, e = .returned (.slice A 0 c)) ∧ Below w.heap.size w w') := by
        refine Lib.hid fun w h => (refCuts_c pg wd A0 A1 A2 c0 c1 c2 nd w h).mono ?_
        rintro e w' ⟨⟨A, c, he, _⟩, hb⟩
        rw [hpl] at he
        exact ⟨⟨A, c, he⟩, hb⟩
      clear hr h hc hpl hp0
      go_enter Try.func33, Try.ntmps33
      go_wp2_with (first
        | (go_at_call 66; go_must (refine (refRight_v pg wd _ _ HRI.out).mono ?_; rintro e w1 ⟨rfl, hb1⟩; have hB1 := refS_first hb1; clear hb1; obtain ⟨⟨q0, q1⟩, q2, q3, q4⟩ := refS_boxes (hB1.mono (by omega))))
        | (go_at_call 69; go_must (refine (refCheck_v pg wd A0 A1 A2 c0 c1 c2 nd _ (HN.out.below (refS_below hB1)) _ HC.out).mono ?_; rintro e w2 ⟨rfl, hb2⟩; have hB2 := refS_next hB1 hb2; clear hb2 hB1 q0 q1 q2 q3 q4; obtain ⟨⟨q0, q1⟩, q2, q3, q4⟩ := refS_boxes (hB2.mono (by omega))))
        | (go_at_call 30; go_must (refine (HCU.out _ (HN.out.below (refS_below hB2))).mono ?_; rintro e w3 ⟨⟨A, c, rfl⟩, hb3⟩; have hB3 := refS_next hB2 hb3; clear hb3 hB2 q0 q1 q2 q3 q4; have hg := refS_row hB3))
        | (refine wpList_store_row rfl 54 (.tmp 4) (.tmp 24) rfl (w.heap.size + 1 + 1) zero7 rfl rfl 54 zero7 hg info54 rfl zero7_one ?_))
      refine bodyPost_ret (results_ct rfl _ _ (w.heap.size + 1 + 1) 54 zero7 (0, 0) _ rfl (setRow_block _ _ _ _ _ _ hg) Try.underlying54 rfl info54) rfl ?_
      exact refSplit_err w _ pg wd nd 82 HE.out (by decide) (below_setRow (refS_below hB3) (by omega) _)
    · have HE := Lib.hid (show splitE pg wd nd = 80 by simp [splitE, hr, hc])
      have HRI := Lib.hid hr
      obtain ⟨E, hE⟩ : ∃ E, checkE pg wd nd = E := ⟨_, rfl⟩
      have hcc : (E != 0) = true := by rw [← hE]; simp [hc]
      have HC := Lib.hid hE
      clear hr h hc hE
      go_enter Try.func33, Try.ntmps33
      go_wp2_with (first
        | (go_at_call 66; go_must (refine (refRight_v pg wd _ _ HRI.out).mono ?_; rintro e w1 ⟨rfl, hb1⟩; have hB1 := refS_first hb1; clear hb1; obtain ⟨⟨q0, q1⟩, q2, q3, q4⟩ := refS_boxes (hB1.mono (by omega))))
        | (go_at_call 69; go_must (refine (refCheck_v pg wd A0 A1 A2 c0 c1 c2 nd _ (HN.out.below (refS_below hB1)) _ HC.out).mono ?_; rintro e w2 ⟨rfl, hb2⟩; have hB2 := refS_next hB1 hb2; clear hb2 hB1 q0 q1 q2 q3 q4; have hg := refS_row hB2))
        | (refine wpList_store_row rfl 54 (.tmp 4) (.tmp 17) rfl (w.heap.size + 1 + 1) zero7 rfl rfl 54 zero7 hg info54 rfl zero7_one ?_))
      refine bodyPost_ret (results_ct rfl _ _ (w.heap.size + 1 + 1) 54 zero7 (0, 0) _ rfl (setRow_block _ _ _ _ _ _ hg) Try.underlying54 rfl info54) rfl ?_
      exact refSplit_err w _ pg wd nd 80 HE.out (by decide) (below_setRow (refS_below hB2) (by omega) _)

end Go.Proofs.Ytajkoeodabmgeaa
end

section
namespace Go.Proofs.Ytajkoeodabmgeaa
open Go.RowKit
set_option maxHeartbeats 4000000
set_option maxRecDepth 100000
attribute [local go_sem] grow_cell grow_frozen grow_size

theorem refSplit_ok (pg wd : Int) (A0 A1 A2 : Option Addr) (c0 c1 c2 : Nat) (nd : NodeD) (w : World) (hN : RdN w A0 c0 A1 c1 A2 c2 nd) (hr : right pg wd = true) (hc : checkE pg wd nd = 0) (hp : 0 < (places pg wd nd).length) :
    Calls Try.prog 33 #[vF pg wd, vN A0 c0 A1 c1 A2 c2 nd] w fun e w' => RefSplitPost pg wd nd w e w' := by
  have hne : ∀ k ∈ places pg wd nd, k ≠ 0 := by
    intro k hk
    obtain ⟨i, _, rfl⟩ := (places_mem hc).1 hk
    unfold firstN; split <;> omega
  have hok : ∀ k ∈ places pg wd nd, cutOk nd k := by
    intro k hk
    obtain ⟨i, hi, rfl⟩ := (places_mem hc).1 hk
    exact shaped_cut (checkE_zero hc).2 i hi
  have hkl : nd.kids.length = 0 → nd.seps.length = 0 := by
    intro h
    have hs := (checkE_zero hc).2
    by_cases hl : leafD nd
    · exact hl.1
    · rw [shaped, if_neg hl] at hs; omega
  have hst : ∀ bi (h : bi < (places pg wd nd).length), BestAt pg wd nd (places pg wd nd) (places pg wd nd).length bi → splitAt' pg wd nd = (places pg wd nd)[bi] ∧ splitE pg wd nd = 0 := by
    intro bi h hb
    obtain ⟨_, _, h1⟩ := hb
    have h2 := h1 hp
    rw [List.take_length] at h2
    have h3 : splitAt' pg wd nd = (places pg wd nd)[bi] := by rw [splitAt', h2]
    refine ⟨h3, ?_⟩
    rw [splitE, if_pos hr, if_pos hc, if_neg]
    rw [h3]; exact hne _ (List.getElem_mem h)
  have hsmall : (places pg wd nd).length * 24 ≤ 140737488355328 := by
    rw [places, if_pos hc, List.length_map, List.length_range, cutsN]
    have h1 := hN.hp
    have h2 := hN.hk
    split <;> omega
  have HN := Lib.hid hN
  have HRI := Lib.hid hr
  have HC := Lib.hid hc
  have HCU := Lib.hid (fun w h => refCuts_c pg wd A0 A1 A2 c0 c1 c2 nd w h)
  generalize places pg wd nd = ps at *
  have HNE := Lib.hid hne
  have HOK := Lib.hid hok
  have HKL := Lib.hid hkl
  have HST := Lib.hid hst
  have hp0 : ((ps.length : Int) == 0) = false := by rw [beq_eq_false_iff_ne]; omega
  clear hN hr hc hne hok hkl hst
  go_enter Try.func33, Try.ntmps33
  go_wp2_with (first
    | (go_at_call 66; go_must (refine (refRight_v pg wd _ _ HRI.out).mono ?_; rintro e w1 ⟨rfl, hb1⟩; have hB1 := refS_first hb1; clear hb1; obtain ⟨⟨q0, q1⟩, q2, q3, q4⟩ := refS_boxes (hB1.mono (by omega))))
    | (go_at_call 69; go_must (refine (refCheck_v pg wd A0 A1 A2 c0 c1 c2 nd _ (HN.out.below (refS_below hB1)) _ HC.out).mono ?_; rintro e w2 ⟨rfl, hb2⟩; have hB2 := refS_next hB1 hb2; clear hb2 hB1 q0 q1 q2 q3 q4; obtain ⟨⟨q0, q1⟩, q2, q3, q4⟩ := refS_boxes (hB2.mono (by omega))))
    | (go_at_call 30; go_must (refine (HCU.out _ (HN.out.below (refS_below hB2))).mono ?_; rintro e w3 ⟨⟨A, c, rfl, hown⟩, hb3⟩; have hB3 := refS_next hB2 hb3; clear hb3 hB2 q0 q1 q2 q3 q4)))
  have hn := (own_rd' hown).1
  obtain ⟨ab, ao, hA⟩ : ∃ ab ao, A = some ⟨ab, ao, none⟩ := by
    obtain ⟨b, o, h, _⟩ := (own_rd' hown).2.2 hp
    exact ⟨b, o, h⟩
  subst hA
  have HO := Lib.hid hown
  have HB3 := Lib.hid hB3
  clear hown hB3
  go_loopw [7, 8] (fun b i wr => ∃ k bi : Nat, k ≤ ps.length ∧ i = .int .i64 k ∧ b = .int .i64 bi ∧ Hid (BestAt pg wd nd ps k bi) ∧ Below w3.heap.size w3 wr) (fun _ i _ => ps.length - (intOf i).toNat)
  case atStart => exact ⟨0, 0, Nat.zero_le _, rfl, rfl, Lib.hid (bestAt_start hp), Below.refl _ _⟩
  case round =>
    obtain ⟨k, bi, hk, rfl, rfl, hbest, hB⟩ := hrel
    have hO := own_below HO.out hB
    have hRd := (own_rd' hO).2
    by_cases hlt : k < ps.length
    · obtain ⟨hbi, hnext⟩ := bestAt_step HNE.out hbest.out hlt
      obtain ⟨x0, x1, x2⟩ := cuts_at hRd hlt
      obtain ⟨y0, y1, y2⟩ := cuts_at hRd hbi
      have hab : ab < wr.heap.size := World.block_lt_of_cell? _ _ x0
      have hki : (k : Int) < (ps.length : Int) := by omega
      have hbii : (bi : Int) < (ps.length : Int) := by omega
      obtain ⟨m1, hm1⟩ : ∃ m, sideM pg wd nd ps[k] = m := ⟨_, rfl⟩
      obtain ⟨m2, hm2⟩ : ∃ m, sideM pg wd nd ps[bi] = m := ⟨_, rfl⟩
      rw [hm1, hm2] at hnext
      unfold sideM at hm1 hm2
      have HM1 := Lib.hid hm1
      have HM2 := Lib.hid hm2
      have HNX := Lib.hid hnext
      have HB := Lib.hid hB
      clear hm1 hm2 hnext hO hRd hbest
      generalize sizeE pg wd (halvesL nd ps[k]) = a1 at *
      generalize sizeE pg wd (halvesR nd ps[k]) = a2 at *
      generalize sizeE pg wd (halvesL nd ps[bi]) = b1 at *
      generalize sizeE pg wd (halvesR nd ps[bi]) = b2 at *
      by_cases hcmp : m1 < m2
      all_goals
        go_wp2
        have HX := Lib.hid (fun W (h : Below wr.heap.size wr W) => And.intro (And.intro ((h.cell (p := ⟨ab, ao + k * 3, none⟩) hab).trans x0) (And.intro ((h.cell (p := ⟨ab, ao + k * 3 + 1, none⟩) hab).trans x1) ((h.cell (p := ⟨ab, ao + k * 3 + 2, none⟩) hab).trans x2)))
          (And.intro ((h.cell (p := ⟨ab, ao + bi * 3, none⟩) hab).trans y0) (And.intro ((h.cell (p := ⟨ab, ao + bi * 3 + 1, none⟩) hab).trans y1) ((h.cell (p := ⟨ab, ao + bi * 3 + 2, none⟩) hab).trans y2))))
        clear x0 x1 x2 y0 y1 y2
        refine wp_region_tree (S := Below wr.heap.size wr) (.take 0 (.take 1 (.take 2 (.take 3 (.take 5 (.take 6 (.take 7 (.take 8 (.run 4 (.run 9 (.take 10 (.done)))))))))))) (by kernel_rfl) (by kernel_rfl) (by kernel_rfl) (fun _ _ d _ _ h => by cases d <;> exact h) (Below.refl wr.heap.size wr).drew ?_
        repeat (apply tree_take; (exact rfl); rfl; (intro W hW; obtain ⟨⟨x0, x1, x2⟩, y0, y1, y2⟩ := HX.out W hW; go_simp; (try with_reducible rfl)); simp only [Act.put, List.setIfInBounds_toArray, List.set_cons_zero, List.set_cons_succ])
        apply tree_run; (exact rfl); rfl; intro K hK; go_simp
        refine (larger_v _ a1 a2 m1 HM1.out _).mono ?_
        rintro e w4 ⟨rfl, hb4⟩
        have hS4 : Below wr.heap.size wr w4 := ((Below.refl wr.heap.size wr).drew).trans hb4
        refine hK.out _ _ hS4 (fun _ => ?_)
        clear hK K
        try simp only [Act.put, List.setIfInBounds_toArray, List.set_cons_zero, List.set_cons_succ]
        apply tree_run; (exact rfl); rfl; intro K hK; go_simp
        refine (larger_v _ b1 b2 m2 HM2.out _).mono ?_
        rintro e w5 ⟨rfl, hb5'⟩
        have hb5 : Below wr.heap.size wr w5 := hS4.trans (hb5'.mono hS4.size)
        refine hK.out _ _ hb5 (fun _ => ?_)
        clear hK K
        try simp only [Act.put, List.setIfInBounds_toArray, List.set_cons_zero, List.set_cons_succ]
        repeat (apply tree_take; (exact rfl); rfl; (intro W hW; go_simp; (try with_reducible rfl)); simp only [Act.put, List.setIfInBounds_toArray, List.set_cons_zero, List.set_cons_succ])
        refine tree_done ?_
        clear hS4 hb4 hb5' HX
        have HB5 := Lib.hid (HB.out.trans (hb5.mono HB.out.size))
        clear hab hb5
        go_wp2
        go_roundw
        case rel =>
          first
            | exact ⟨k + 1, k, by omega, by go_num, rfl, Lib.hid (by have := HNX.out; rwa [if_pos hcmp] at this), HB5.out⟩
            | exact ⟨k + 1, bi, by omega, by go_num, rfl, Lib.hid (by have := HNX.out; rwa [if_neg (Int.not_lt.2 hcmp)] at this), HB5.out⟩
        case measure => simp [intOf]; omega
    · obtain rfl : k = ps.length := by omega
      have hbi : bi < ps.length := hbest.out.1
      obtain ⟨hat, hE⟩ := HST.out bi hbi hbest.out
      obtain ⟨y0, _, _⟩ := cuts_at hRd hbi
      have hab : ab < wr.heap.size := World.block_lt_of_cell? _ _ y0
      have hbii : (bi : Int) < (ps.length : Int) := by omega
      have hB4 := refS_next HB3.out hB
      have hg := refS_row hB4
      have hne2 : ab ≠ w.heap.size + 1 + 1 := by
        have := own_ne_block hO hg (by decide)
        simpa [Value.ownBlock] using this
      have hcut := HOK.out _ (List.getElem_mem hbi)
      obtain ⟨P, hP⟩ : ∃ P, ps[bi] = P := ⟨_, rfl⟩
      rw [hP] at y0 hcut hat
      have hi0 : 0 ≤ (bi : Int) := by omega
      have HX := Lib.hid (fun W (h : Below (w.heap.size + 1 + 1) (refSW w (.int .i64 pg) (.int .i64 wd) (.slice A0 nd.pairs.length c0) (.slice A1 nd.seps.length c1) (.slice A2 nd.kids.length c2)) W ∧ W.cell? ⟨ab, ao + bi * 3, none⟩ = some (.int .i64 (P : Nat))) => And.intro (refS_boxes h.1) h.2)
      have HB4 := Lib.hid hB4
      have HCUT := Lib.hid hcut
      have HAT := Lib.hid hat
      have HE := Lib.hid hE
      have HG := Lib.hid hg
      have HY0 := Lib.hid y0
      clear hO hRd hbest hcut hat hE hB4 hg y0 hP hB
      go_wp2
      refine wp_region_tree (S := fun W => Below (w.heap.size + 1 + 1) (refSW w (.int .i64 pg) (.int .i64 wd) (.slice A0 nd.pairs.length c0) (.slice A1 nd.seps.length c1) (.slice A2 nd.kids.length c2)) W ∧ W.cell? ⟨ab, ao + bi * 3, none⟩ = some (.int .i64 (P : Nat)))
        (.take 0 (.take 1 (.take 2 (.take 3 (.take 4 (.take 5 (.run 6 (.run 7 (.take 8 (.done)))))))))) (by kernel_rfl) (by kernel_rfl) (by kernel_rfl) (fun _ _ d _ _ h => by cases d <;> exact h) (show _ ∧ _ from ⟨(HB4.out.mono (by omega)).drew, HY0.out⟩) ?_
      repeat (apply tree_take; (exact rfl); rfl; (intro W hW; obtain ⟨⟨⟨q0, q1⟩, q2, q3, q4⟩, y0⟩ := HX.out W hW; go_simp; (try with_reducible rfl)); simp only [Act.put, List.setIfInBounds_toArray, List.set_cons_zero, List.set_cons_succ])
      apply tree_run; (exact rfl); rfl; intro K hK; go_simp
      refine (refCut_c A0 A1 A2 c0 c1 c2 nd P _ (HN.out.below (refS_below HB4.out.drew)) HCUT.out HKL.out).mono ?_
      rintro e w5 ⟨⟨x, y, rfl, hx, hy⟩, hb5⟩
      have hB5 := refS_next HB4.out.drew hb5
      have hg5 := refS_row hB5
      have hc5 := (hb5.cell (p := ⟨ab, ao + bi * 3, none⟩) hab).trans HY0.out
      refine hK.out _ _ ⟨hB5.mono (by omega), hc5⟩ (fun _ => ?_)
      clear hK K
      try simp only [Act.put, List.setIfInBounds_toArray, List.set_cons_zero, List.set_cons_succ]
      apply tree_run; (exact rfl); rfl; intro K hK
      refine wp_store_row 54 (.tmp 4) (.tmp 49) rfl (w.heap.size + 1 + 1) (cells7 x (halvesL nd P) (halvesS nd P) y (halvesR nd P)) rfl rfl 54 zero7 hg5 info54 rfl (own7 x y _ _ _) ?_
      refine hK.out _ _ ⟨below_setRow (hB5.mono (by omega)) (Nat.le_refl _) _, (World.cell?_of_block (a := ⟨ab, ao + bi * 3, none⟩) (setRow_other _ _ _ _ hne2)).trans hc5⟩ (fun _ => ?_)
      clear hK K
      try simp only [Act.put]
      repeat (apply tree_take; (exact rfl); rfl; (intro W hW; go_simp; (try with_reducible rfl)); simp only [Act.put, List.setIfInBounds_toArray, List.set_cons_zero, List.set_cons_succ])
      refine tree_done ?_
      go_wp2
      refine bodyPost_ret (results_ct rfl _ _ (w.heap.size + 1 + 1) 54 (cells7 x (halvesL nd P) (halvesS nd P) y (halvesR nd P)) (0, 0) _ rfl (setRow_block _ _ _ _ _ _ hg5) Try.underlying54 rfl info54) rfl ?_
      have e1 : splitL pg wd nd = halvesL nd P := by rw [splitL, if_pos HE.out, HAT.out]
      have e2 : splitR pg wd nd = halvesR nd P := by rw [splitR, if_pos HE.out, HAT.out]
      have e3 : splitS pg wd nd = halvesS nd P := by rw [splitS, if_pos HE.out, HAT.out]
      unfold RefSplitPost
      rw [e1, e2, e3, HE.out]
      have hw4 : w.heap.size + 1 + 1 < wr.heap.size := by have := refS_size HB4.out; omega
      have hw5 : w.heap.size ≤ wr.drew.heap.size := by show w.heap.size ≤ wr.heap.size; omega
      exact ⟨⟨x, y, rfl, (OwN.setRow' hx _ _ (.inl hw4)).wide hw5 (by simp [World.setRow]), (OwN.setRow' hy _ _ (.inl hw4)).wide hw5 (by simp [World.setRow])⟩, below_setRow (refS_below hB5) (by omega) _⟩

end Go.Proofs.Ytajkoeodabmgeaa
end

section
namespace Go.Proofs.Ytajkoeodabmgeaa
open Go.RowKit
set_option maxHeartbeats 4000000
set_option maxRecDepth 100000
attribute [local go_sem] grow_cell grow_frozen grow_size

theorem refSplit_c (pg wd : Int) (A0 A1 A2 : Option Addr) (c0 c1 c2 : Nat) (nd : NodeD) (w : World) (hN : RdN w A0 c0 A1 c1 A2 c2 nd) :
    Calls Try.prog 33 #[vF pg wd, vN A0 c0 A1 c1 A2 c2 nd] w fun e w' => RefSplitPost pg wd nd w e w' := by
  by_cases hr : right pg wd = true
  · by_cases hc : checkE pg wd nd = 0
    · rcases Nat.eq_zero_or_pos (places pg wd nd).length with h | h
      · exact refSplit_bad pg wd A0 A1 A2 c0 c1 c2 nd w hN (.inr (.inr h))
      · exact refSplit_ok pg wd A0 A1 A2 c0 c1 c2 nd w hN hr hc h
    · exact refSplit_bad pg wd A0 A1 A2 c0 c1 c2 nd w hN (.inr (.inl hc))
  · exact refSplit_bad pg wd A0 A1 A2 c0 c1 c2 nd w hN (.inl (by simpa using hr))

abbrev RdH (w : World) (x : VH) (nd : NodeD) : Prop := RdN w x.A0 x.c0 x.A1 x.c1 x.A2 x.c2 nd

theorem same8_c (x y x' y' : VH) (L R : NodeD) (s : ByteArray) (w : World) (h1 : RdH w x L) (h2 : RdH w y R) (h3 : RdH w x' L) (h4 : RdH w y' R) :
    Calls Try.prog 79 #[vH x L s y R, vH x' L s y' R] w fun e w' => e = .returned (.bool true) ∧ Below w.heap.size w w' := by
  have hb0 : Below w.heap.size w ((w.alloc (.cells (cells7 x L s y R) 54)).alloc (.cells (cells7 x' L s y' R) 54)) := ((Below.refl _ _).alloc (Nat.le_refl _) _).alloc (by simp) _
  have H1 := Lib.hid (RdN.below h1 hb0)
  have H2 := Lib.hid (RdN.below h2 hb0)
  have H3 := Lib.hid (RdN.below h3 hb0)
  have H4 := Lib.hid (RdN.below h4 hb0)
  have HB0 := Lib.hid hb0
  clear h1 h2 h3 h4 hb0
  go_enter Try.func79, Try.ntmps79
  go_wp2_with (first
    | (go_at_call 50; skip; (
       refine (same_c x.A0 x.A1 x.A2 x'.A0 x'.A1 x'.A2 x.c0 x.c1 x.c2 x'.c0 x'.c1 x'.c2 L _ H1.out H3.out).mono ?_; rintro e w1 ⟨rfl, hb1⟩
       have r1 : w1.heap[w.heap.size]? = some (.cells (cells7 x L s y R) 54 (0, 0)) := (hb1.block _ (by simp <;> omega)).trans ((Below.heap_alloc _ _ _ (by simp)).trans (heap_alloc_new _ _))
       have r2 : w1.heap[w.heap.size + 1]? = some (.cells (cells7 x' L s y' R) 54 (0, 0)) := (hb1.block _ (by simp)).trans (alloc2_at w _ _)
       obtain ⟨p0, p1, p2, p3, p4, p5, p6⟩ := box7s r1
       obtain ⟨q0, q1, q2, q3, q4, q5, q6⟩ := box7s r2
       have H2' := Lib.hid (H2.out.below hb1)
       have H4' := Lib.hid (H4.out.below hb1)
       have HB1 := Lib.hid (HB0.out.trans (hb1.mono HB0.out.size))
       clear H1 H3 H2 H4 r1 r2 hb1))
    | (go_at_call 50; go_must (
       refine (same_c y.A0 y.A1 y.A2 y'.A0 y'.A1 y'.A2 y.c0 y.c1 y.c2 y'.c0 y'.c1 y'.c2 R _ H2'.out H4'.out).mono ?_; rintro e w2 ⟨rfl, hb2⟩)))
  go_ret
  exact ⟨rfl, HB1.out.trans (hb2.mono HB1.out.size)⟩

abbrev h34W (w : World) (a b c : Array Value) : World := ((w.alloc (.cells a 54)).alloc (.cells b 54)).alloc (.cells c 54)
theorem h34_base {w : World} {a b c : Array Value} : Below w.heap.size w (h34W w a b c) := (((Below.refl _ _).alloc (Nat.le_refl _) _).alloc (by simp) _).alloc (by simp <;> omega) _
theorem h34_boxes {S : Nat → Prop} {w w1 : World} {a b c : Array Value} (h : Kept S (h34W w a b c) w1) (hS : ∀ k, w.heap.size ≤ k → ¬ S k) :
    (w1.heap[w.heap.size]? = some (.cells a 54 (0, 0)) ∧ w1.heap[w.heap.size + 1]? = some (.cells b 54 (0, 0)) ∧ w1.heap[w.heap.size + 1 + 1]? = some (.cells c 54 (0, 0))) ∧
    (w.heap.size < w1.heap.size ∧ w.heap.size + 1 < w1.heap.size ∧ w.heap.size + 1 + 1 < w1.heap.size) := by
  have hs := h.size
  have hz : (h34W w a b c).heap.size = w.heap.size + 3 := by simp [h34W]
  refine ⟨⟨(h.block _ (by omega) (hS _ (Nat.le_refl _))).trans (alloc3_0 w _ _ _), (h.block _ (by omega) (hS _ (by omega))).trans (alloc3_1 w _ _ _), (h.block _ (by omega) (hS _ (by omega))).trans (alloc3_at w _ _ _)⟩, by omega, by omega, by omega⟩

theorem halves34_c (xa ya xb yb xw yw : VH) (L R : NodeD) (s : ByteArray) (w : World) (la ma ha : Nat) (hxa : VH.own xa w la ma L) (hya : VH.own ya w ma ha R) (hRL : Room 6 L) (hRR : Room 6 R) (h1 : la ≤ ma) (h2 : ma ≤ ha) (h3 : ha ≤ w.heap.size)
    (hB : ∀ W, Kept (fun k => la ≤ k ∧ k < ha) w W → RdH W xb L ∧ RdH W yb R) (hC : ∀ W, Kept (fun k => la ≤ k ∧ k < ha) w W → RdH W xw L ∧ RdH W yw R) :
    Calls Try.prog 34 #[vH xa L s ya R, vH xb L s yb R, vH xw L s yw R] w fun e w' => e = .returned (.bool true) ∧ Kept (fun k => la ≤ k ∧ k < ha) w w' := by
  have hS : ∀ k, w.heap.size ≤ k → ¬ (la ≤ k ∧ k < ha) := fun k hk h => by omega
  have HS := Lib.hid hS
  have hb0 := @h34_base w (cells7 xa L s ya R) (cells7 xb L s yb R) (cells7 xw L s yw R)
  have HK0 := Lib.hid (Kept.of_below (S := fun k => la ≤ k ∧ k < ha) hb0)
  have HB := Lib.hid (fun W (h : Kept (fun k => la ≤ k ∧ k < ha) (h34W w (cells7 xa L s ya R) (cells7 xb L s yb R) (cells7 xw L s yw R)) W) => hB W (HK0.out.trans h))
  have HC := Lib.hid (fun W (h : Kept (fun k => la ≤ k ∧ k < ha) (h34W w (cells7 xa L s ya R) (cells7 xb L s yb R) (cells7 xw L s yw R)) W) => hC W (HK0.out.trans h))
  have HXA := Lib.hid (OwN.below hxa hb0)
  have HYA := Lib.hid (OwN.below hya hb0)
  have HRL := Lib.hid hRL
  have HRR := Lib.hid hRR
  have hla : la ≤ (h34W w (cells7 xa L s ya R) (cells7 xb L s yb R) (cells7 xw L s yw R)).heap.size := by simp [h34W]; omega
  have hma : ma ≤ (h34W w (cells7 xa L s ya R) (cells7 xb L s yb R) (cells7 xw L s yw R)).heap.size := by simp [h34W]; omega
  have HLA := Lib.hid hla
  have HMA := Lib.hid hma
  have H12 := Lib.hid (And.intro h1 h2)
  have HKr := Lib.hid (Kept.refl (fun k => la ≤ k ∧ k < ha) (h34W w (cells7 xa L s ya R) (cells7 xb L s yb R) (cells7 xw L s yw R)))
  have HBr := Lib.hid (Below.refl (h34W w (cells7 xa L s ya R) (cells7 xb L s yb R) (cells7 xw L s yw R)).heap.size (h34W w (cells7 xa L s ya R) (cells7 xb L s yb R) (cells7 xw L s yw R)))
  clear hS hb0 hxa hya hRL hRR h1 h2 h3 hB hC hla hma
  go_enter Try.func34, Try.ntmps34
  go_wp2_with (first
    | (go_at_call 79; skip; (
       refine (same8_c xa ya xw yw L R s _ (OwN.rd HXA.out) (OwN.rd HYA.out) (HC.out _ HKr.out).1 (HC.out _ HKr.out).2).mono ?_; rintro e w1 ⟨rfl, hb1⟩
       have HK1 := Lib.hid (HKr.out.step hb1)
       have HB1 := Lib.hid (HBr.out.trans (hb1.mono HBr.out.size))
       clear hb1 HKr HBr
       obtain ⟨⟨ra, rb, rc⟩, z0, z1, z2⟩ := h34_boxes HK1.out HS.out
       obtain ⟨a0, a1, a2, a3, a4, a5, a6⟩ := box7s ra
       obtain ⟨b0, b1, b2, b3, b4, b5, b6⟩ := box7s rb
       obtain ⟨d0, d1, d2, d3, d4, d5, d6⟩ := box7s rc
       clear ra rb rc))
    | (go_at_call 79; skip; (
       refine (same8_c xb yb xw yw L R s _ (HB.out _ HK1.out).1 (HB.out _ HK1.out).2 (HC.out _ HK1.out).1 (HC.out _ HK1.out).2).mono ?_; rintro e w2 ⟨rfl, hb2⟩
       have HK2 := Lib.hid (HK1.out.step hb2)
       have HB2 := Lib.hid (HB1.out.trans (hb2.mono HB1.out.size))
       clear hb2 HK1 HB1
       clear a0 a1 a2 a3 a4 a5 a6 b0 b1 b2 b3 b4 b5 b6 d0 d1 d2 d3 d4 d5 d6 z0 z1 z2
       obtain ⟨⟨ra, rb, rc⟩, z0, z1, z2⟩ := h34_boxes HK2.out HS.out
       obtain ⟨a0, a1, a2, a3, a4, a5, a6⟩ := box7s ra
       obtain ⟨b0, b1, b2, b3, b4, b5, b6⟩ := box7s rb
       obtain ⟨d0, d1, d2, d3, d4, d5, d6⟩ := box7s rc
       clear ra rb rc))
    | (go_at_call 25; skip; (
       refine (spoil_c xa.A0 xa.A1 xa.A2 xa.c0 xa.c1 xa.c2 L _ la ma (OwN.below HXA.out HB2.out) HRL.out (Nat.le_trans HLA.out HB2.out.size)).mono ?_; rintro e w3 ⟨⟨r, rfl⟩, hk3⟩
       have HK3 := Lib.hid (HK2.out.trans (hk3.mono (fun k h => ⟨h.1, Nat.lt_of_lt_of_le h.2 H12.out.2⟩)))
       have HY3 := Lib.hid (OwN.kept (OwN.below HYA.out HB2.out) hk3 (fun k h1 h2 h => absurd h.2 (by omega)))
       have hm3 := Lib.hid (Nat.le_trans HMA.out (Nat.le_trans HB2.out.size hk3.size))
       clear hk3 HK2 HB2 HXA HYA
       clear a0 a1 a2 a3 a4 a5 a6 b0 b1 b2 b3 b4 b5 b6 d0 d1 d2 d3 d4 d5 d6 z0 z1 z2
       obtain ⟨⟨ra, rb, rc⟩, z0, z1, z2⟩ := h34_boxes HK3.out HS.out
       obtain ⟨a0, a1, a2, a3, a4, a5, a6⟩ := box7s ra
       obtain ⟨b0, b1, b2, b3, b4, b5, b6⟩ := box7s rb
       obtain ⟨d0, d1, d2, d3, d4, d5, d6⟩ := box7s rc
       clear ra rb rc))
    | (go_at_call 50; go_must (
       refine (same_c ya.A0 ya.A1 ya.A2 yw.A0 yw.A1 yw.A2 ya.c0 ya.c1 ya.c2 yw.c0 yw.c1 yw.c2 R _ (OwN.rd HY3.out) (HC.out _ HK3.out).2).mono ?_; rintro e w4 ⟨rfl, hb4⟩
       have HK4 := Lib.hid (HK3.out.step hb4)
       have HY4 := Lib.hid (OwN.below HY3.out hb4)
       have hm4 := Lib.hid (Nat.le_trans hm3.out hb4.size)
       clear hb4 HK3 HY3 hm3
       clear a0 a1 a2 a3 a4 a5 a6 b0 b1 b2 b3 b4 b5 b6 d0 d1 d2 d3 d4 d5 d6 z0 z1 z2
       obtain ⟨⟨ra, rb, rc⟩, z0, z1, z2⟩ := h34_boxes HK4.out HS.out
       obtain ⟨a0, a1, a2, a3, a4, a5, a6⟩ := box7s ra
       obtain ⟨b0, b1, b2, b3, b4, b5, b6⟩ := box7s rb
       obtain ⟨d0, d1, d2, d3, d4, d5, d6⟩ := box7s rc
       clear ra rb rc))
    | (go_at_call 79; skip; (
       refine (same8_c xb yb xw yw L R s _ (HB.out _ HK4.out).1 (HB.out _ HK4.out).2 (HC.out _ HK4.out).1 (HC.out _ HK4.out).2).mono ?_; rintro e w5 ⟨rfl, hb5⟩
       have HK5 := Lib.hid (HK4.out.step hb5)
       have HY5 := Lib.hid (OwN.below HY4.out hb5)
       have hm5 := Lib.hid (Nat.le_trans hm4.out hb5.size)
       clear hb5 HK4 HY4 hm4
       clear a0 a1 a2 a3 a4 a5 a6 b0 b1 b2 b3 b4 b5 b6 d0 d1 d2 d3 d4 d5 d6 z0 z1 z2
       obtain ⟨⟨ra, rb, rc⟩, z0, z1, z2⟩ := h34_boxes HK5.out HS.out
       obtain ⟨a0, a1, a2, a3, a4, a5, a6⟩ := box7s ra
       obtain ⟨b0, b1, b2, b3, b4, b5, b6⟩ := box7s rb
       obtain ⟨d0, d1, d2, d3, d4, d5, d6⟩ := box7s rc
       clear ra rb rc))
    | (go_at_call 25; go_must (
       refine (spoil_c ya.A0 ya.A1 ya.A2 ya.c0 ya.c1 ya.c2 R _ ma ha HY5.out HRR.out hm5.out).mono ?_; rintro e w6 ⟨⟨r', rfl⟩, hk6⟩
       have HK6 := Lib.hid (HK5.out.trans (hk6.mono (fun k h => ⟨Nat.le_trans H12.out.1 h.1, h.2⟩)))
       clear hk6 HK5 HY5 hm5
       clear a0 a1 a2 a3 a4 a5 a6 b0 b1 b2 b3 b4 b5 b6 d0 d1 d2 d3 d4 d5 d6 z0 z1 z2
       obtain ⟨⟨ra, rb, rc⟩, z0, z1, z2⟩ := h34_boxes HK6.out HS.out
       obtain ⟨a0, a1, a2, a3, a4, a5, a6⟩ := box7s ra
       obtain ⟨b0, b1, b2, b3, b4, b5, b6⟩ := box7s rb
       obtain ⟨d0, d1, d2, d3, d4, d5, d6⟩ := box7s rc
       clear ra rb rc))
    | (go_at_call 79; go_must (
       refine (same8_c xb yb xw yw L R s _ (HB.out _ HK6.out).1 (HB.out _ HK6.out).2 (HC.out _ HK6.out).1 (HC.out _ HK6.out).2).mono ?_; rintro e w7 ⟨rfl, hb7⟩
       have HK7 := Lib.hid (HK6.out.step hb7))))
  go_ret
  exact ⟨rfl, HK0.out.trans HK7.out⟩

end Go.Proofs.Ytajkoeodabmgeaa
end

section
namespace Go.Proofs.Ytajkoeodabmgeaa
open Go.RowKit
set_option maxHeartbeats 4000000
set_option maxRecDepth 100000
attribute [local go_sem] grow_cell grow_frozen grow_size

def greatB (nd : NodeD) : Bool := decide (2000 < nd.pairs.length ∨ 2000 < nd.seps.length ∨ 2000 < nd.kids.length)
theorem great_c (A0 A1 A2 : Option Addr) (c0 c1 c2 : Nat) (nd : NodeD) (w : World) : Calls Try.prog 29 #[vN A0 c0 A1 c1 A2 c2 nd] w fun e w' => e = .returned (.bool (greatB nd)) ∧ Below w.heap.size w w' := by
  by_cases h1 : 2000 < nd.pairs.length
  · have hg : greatB nd = true := by simp [greatB, h1]
    rw [hg]
    clear hg
    go_enter Try.func29, Try.ntmps29
    go_wp2
    go_ret
    exact ⟨ret_eq (congrArg Value.bool (by first | rfl | (simp; omega))), (Below.refl _ _).alloc (Nat.le_refl _) _⟩
  · by_cases h2 : 2000 < nd.seps.length
    · have hg : greatB nd = true := by simp [greatB, h2]
      rw [hg]
      clear hg
      go_enter Try.func29, Try.ntmps29
      go_wp2
      go_ret
      exact ⟨ret_eq (congrArg Value.bool (by first | rfl | (simp; omega))), (Below.refl _ _).alloc (Nat.le_refl _) _⟩
    · by_cases h3 : 2000 < nd.kids.length
      · have hg : greatB nd = true := by simp [greatB, h3]
        rw [hg]
        clear hg
        go_enter Try.func29, Try.ntmps29
        go_wp2
        go_ret
        exact ⟨ret_eq (congrArg Value.bool (by first | rfl | (simp; omega))), (Below.refl _ _).alloc (Nat.le_refl _) _⟩
      · have hg : greatB nd = false := by simp [greatB]; omega
        rw [hg]
        clear hg
        go_enter Try.func29, Try.ntmps29
        go_wp2
        go_ret
        exact ⟨ret_eq (congrArg Value.bool (by first | rfl | (simp; omega))), (Below.refl _ _).alloc (Nat.le_refl _) _⟩
theorem great_v (A0 A1 A2 : Option Addr) (c0 c1 c2 : Nat) (nd : NodeD) (b : Bool) (hb : greatB nd = b) (w : World) : Calls Try.prog 29 #[vN A0 c0 A1 c1 A2 c2 nd] w fun e w' => e = .returned (.bool b) ∧ Below w.heap.size w w' := by
  subst hb; exact great_c A0 A1 A2 c0 c1 c2 nd w

theorem splitRoom {pg wd : Int} {nd : NodeD} (h : Room 8 nd) : Room 6 (splitL pg wd nd) ∧ Room 6 (splitR pg wd nd) := by
  have hl : ∀ k, Room 6 (halvesL nd k) := fun k => by
    unfold halvesL
    split
    · exact ⟨Nat.le_trans (Nat.mul_le_mul_right _ (show (nd.pairs.take k).length + 6 ≤ nd.pairs.length + 8 by rw [List.length_take]; omega)) h.p, by simp, by simp⟩
    · exact ⟨by simp, Nat.le_trans (Nat.mul_le_mul_right _ (show (nd.seps.take (k - 1)).length + 6 ≤ nd.seps.length + 8 by rw [List.length_take]; omega)) h.s, Nat.le_trans (Nat.mul_le_mul_right _ (show (nd.kids.take k).length + 6 ≤ nd.kids.length + 8 by rw [List.length_take]; omega)) h.k⟩
  have hr : ∀ k, Room 6 (halvesR nd k) := fun k => by
    unfold halvesR
    split
    · exact ⟨Nat.le_trans (Nat.mul_le_mul_right _ (show (nd.pairs.drop k).length + 6 ≤ nd.pairs.length + 8 by rw [List.length_drop]; omega)) h.p, by simp, by simp⟩
    · exact ⟨by simp, Nat.le_trans (Nat.mul_le_mul_right _ (show (nd.seps.drop k).length + 6 ≤ nd.seps.length + 8 by rw [List.length_drop]; omega)) h.s, Nat.le_trans (Nat.mul_le_mul_right _ (show (nd.kids.drop k).length + 6 ≤ nd.kids.length + 8 by rw [List.length_drop]; omega)) h.k⟩
  have h0 : Room 6 noN := ⟨by decide, by decide, by decide⟩
  constructor
  · unfold splitL
    split
    · exact hl _
    · exact h0
  · unfold splitR
    split
    · exact hr _
    · exact h0

end Go.Proofs.Ytajkoeodabmgeaa
end
