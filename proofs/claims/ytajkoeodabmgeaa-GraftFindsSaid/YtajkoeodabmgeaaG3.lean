import Derived.Test.YtajkoeodabmgeaaG2
namespace Go.Proofs.Ytajkoeodabmgeaa
open Go.RowKit
set_option maxHeartbeats 2000000
set_option maxRecDepth 100000
attribute [local go_sem] grow_cell grow_frozen grow_size

theorem putK_none (A0 : Option Addr) (c0 : Nat) (l : List KidD) (cur : World) (hR : Rd cur 33 A0 l.length (kcells l)) (hc : l.length ≤ c0) (hl : l.length * 36 ≤ 140737488355328) (i m : Nat) (x y : Int) (hx : x = i) (hy : y = m) (h : i + m ≤ l.length)
    (hk : ∀ q ∈ l, q.sum.length = 32) (L : List KidD) (hL : l.take i ++ l.drop (i + m) = L) :
    Calls Try.prog 85 #[.slice A0 l.length c0, .int .i64 x, .int .i64 y, .slice none 0 0] cur fun e w' =>
      (∃ A c, e = .returned (.slice A L.length c) ∧ w'.ownsRow cur.heap.size 85 33 (.slice A L.length c) L.length (kcells L)) ∧ Below cur.heap.size cur w' := by
  subst hx hy hL
  refine (putK_c A0 none l.length c0 0 0 i m (kcells l) [] _ hR Rd.none_ hc h (by omega) (kc1 _) (by simp)).mono ?_
  rintro e w' ⟨⟨v, rfl, hown⟩, hb⟩
  have hl : (l.take i ++ l.drop (i + m)).length = l.length - m + 0 := by simp; omega
  have hp : kcells (l.take i ++ l.drop (i + m)) = (kcells l).take (i * 33) ++ [] ++ (kcells l).drop ((i + m) * 33) := by rw [kcells_append, kcells_take _ _ hk, kcells_drop _ _ hk, List.append_nil]
  rw [← hp, ← hl] at hown
  obtain ⟨A, c, rfl, _, _⟩ := own_rd hown
  exact ⟨⟨A, c, rfl, hown⟩, hb⟩
theorem putS_none (A0 : Option Addr) (c0 : Nat) (l : List ByteArray) (cur : World) (hR : Rd cur 1 A0 l.length (scells l)) (hc : l.length ≤ c0) (hl : l.length * 16 ≤ 140737488355328) (i m : Nat) (x y : Int) (hx : x = i) (hy : y = m) (h : i + m ≤ l.length)
    (L : List ByteArray) (hL : l.take i ++ l.drop (i + m) = L) :
    Calls Try.prog 86 #[.slice A0 l.length c0, .int .i64 x, .int .i64 y, .slice none 0 0] cur fun e w' =>
      (∃ A c, e = .returned (.slice A L.length c) ∧ w'.ownsRow cur.heap.size 9 1 (.slice A L.length c) L.length (scells L)) ∧ Below cur.heap.size cur w' := by
  subst hx hy hL
  refine (putS_c A0 none l.length c0 0 0 i m (scells l) [] _ hR Rd.none_ hc h (by omega) (sc1 _) (by simp)).mono ?_
  rintro e w' ⟨⟨v, rfl, hown⟩, hb⟩
  have hl : (l.take i ++ l.drop (i + m)).length = l.length - m + 0 := by simp; omega
  have hp : scells (l.take i ++ l.drop (i + m)) = (scells l).take (i * 1) ++ [] ++ (scells l).drop ((i + m) * 1) := by rw [scells_append, scells_take, scells_drop, List.append_nil]
  rw [← hp, ← hl] at hown
  obtain ⟨A, c, rfl, _, _⟩ := own_rd hown
  exact ⟨⟨A, c, rfl, hown⟩, hb⟩

theorem OwN.branch {w : World} {lo hi : Nat} {l : List KidD} {s : List ByteArray} {A B : Option Addr} {c d : Nat}
    (h : w.ownsRow lo 85 33 (.slice A l.length c) l.length (kcells l)) (h' : w.ownsRow lo 9 1 (.slice B s.length d) s.length (scells s)) (hhi : w.heap.size ≤ hi) (hb : l.length * 36 ≤ 140737488355328) (hb' : s.length * 16 ≤ 140737488355328)
    (hkk : ∀ q ∈ l, q.sum.length = 32) (hsk : ∀ q ∈ s, q.size ≤ 140737488355328) :
    OwN w lo hi none 0 B d A c ⟨[], s, l⟩ :=
  { pairs := World.ownsRow_nil _ _ _ _
    seps := h'
    kids := h
    u0 := fun k h => by simp [Value.ownBlock] at h
    u1 := fun k hk => Nat.lt_of_lt_of_le (h'.lt k hk).2 hhi
    u2 := fun k hk => Nat.lt_of_lt_of_le (h.lt k hk).2 hhi
    hp := by simp
    hs := hb'
    hk := hb
    pk := fun q hq => by simp at hq
    sk := hsk
    kk := hkk }

theorem halves_branch (A0 A1 A2 : Option Addr) (c0 c1 c2 : Nat) (nd : NodeD) (k : Nat) (w : World) (hN : RdN w A0 c0 A1 c1 A2 c2 nd) (hk : nd.kids.length ≠ 0) (h2 : k + 1 ≤ nd.kids.length) (h3 : k + 1 ≤ nd.seps.length) :
    Calls Try.prog 77 #[vN A0 c0 A1 c1 A2 c2 nd, .int .i64 (k + 1)] w fun e w' =>
      ∃ x y mid, e = .returned (vH x (halvesL nd (k + 1)) (halvesS nd (k + 1)) y (halvesR nd (k + 1))) ∧ x.own w' w.heap.size mid (halvesL nd (k + 1)) ∧ y.own w' mid w'.heap.size (halvesR nd (k + 1)) ∧ Below w.heap.size w w' ∧ w.heap.size ≤ mid := by
  have hks := hN.hk
  have hss := hN.hs
  have hc1 := hN.hcs
  have hc2 := hN.hck
  have HN := Lib.hid hN
  have HKK := Lib.hid hN.kk
  have HSK := Lib.hid hN.sk
  have hkk : ((nd.kids.length : Int) == 0) = false := by rw [beq_eq_false_iff_ne]; omega
  have HK := Lib.hid hk
  have HL : Hid (halvesL nd (k + 1) = ⟨[], nd.seps.take k, nd.kids.take (k + 1)⟩) := Lib.hid (by simp only [halvesL, if_neg hk, Nat.add_sub_cancel])
  have HRR : Hid (halvesR nd (k + 1) = ⟨[], nd.seps.drop (k + 1), nd.kids.drop (k + 1)⟩) := Lib.hid (by simp only [halvesR, if_neg hk])
  obtain ⟨ab, ao, rfl, hj0⟩ := seps_at (HN.out.seps) (show k < nd.seps.length by omega)
  have habl : ab < w.heap.size := World.block_lt_of_cell? _ _ hj0
  have habl1 : ab < w.heap.size + 1 := by omega
  have hki : (k : Int) < nd.seps.length := by omega
  have hki2 : k < nd.seps.length := by omega
  have hwk : IntKind.i64.wrap (k : Int) = k := IntWalk.i64_in _ (by omega)
  have HJ := Lib.hid hj0
  clear hN hk hj0
  go_enter Try.func77, Try.ntmps77
  go_wp2
  have hS1 : Box (w.heap.size + 1) 7 54 (hW w (.slice A0 nd.pairs.length c0) (.slice (some ⟨ab, ao, none⟩) nd.seps.length c1) (.slice A2 nd.kids.length c2)) (hW w (.slice A0 nd.pairs.length c0) (.slice (some ⟨ab, ao, none⟩) nd.seps.length c1) (.slice A2 nd.kids.length c2)) := hW_box (Below.refl _ _)
  have HF := Lib.hid (fun W (h : Box (w.heap.size + 1) 7 54 (hW w (.slice A0 nd.pairs.length c0) (.slice (some ⟨ab, ao, none⟩) nd.seps.length c1) (.slice A2 nd.kids.length c2)) W) => And.intro (hW_cells h) (((hW_below rfl h).cell (p := ⟨ab, ao + k, none⟩) habl).trans HJ.out))
  refine wp_region_sched (S := Box (w.heap.size + 1) 7 54 (hW w (.slice A0 nd.pairs.length c0) (.slice (some ⟨ab, ao, none⟩) nd.seps.length c1) (.slice A2 nd.kids.length c2)))
    [(0, true), (1, true), (2, true), (3, true), (4, true), (5, true), (6, true), (7, true), (9, true), (10, true), (11, true), (12, true), (13, true), (14, true), (15, true), (16, true), (17, true), (18, true),
     (21, true), (22, true), (23, true), (24, true), (25, true), (26, true), (27, true), (28, true), (29, true), (31, true), (32, true), (33, true), (8, false), (19, false), (20, true), (30, false), (34, false), (35, true), (36, true), (37, false)]
    (by kernel_rfl) (by kernel_rfl) (by kernel_rfl) (fun _ _ d _ _ h => by cases d <;> exact h) hS1.drew ?_
  repeat (apply sched_take; (exact rfl); rfl; (intro W hW; obtain ⟨⟨q0, q1, q2⟩, q3⟩ := HF.out W hW; go_simp; (try with_reducible rfl)); simp only [Act.put, List.setIfInBounds_toArray, List.set_cons_zero, List.set_cons_succ])
  apply sched_run; (exact rfl); rfl; intro K hK; go_simp
  refine (putK_none _ c2 nd.kids _ (HN.out.kids.below (hW_below rfl hS1.drew)) hc2 hks (k + 1) (nd.kids.length - (k + 1)) _ _ (by omega) (by rw [IntWalk.i64_in _ (by omega)]; omega) (by omega) HKK.out (halvesL nd (k + 1)).kids (by rw [HL.out, List.drop_of_length_le (by omega), List.append_nil])).mono ?_
  rintro e w2 ⟨⟨B0, d0, rfl, hown2⟩, hb2⟩
  have hS2 := hS1.drew.step hb2
  have HO2 := Lib.hid hown2
  have hg1 : w.heap.size + 1 < w2.heap.size := hS2.2.lt
  clear hown2
  refine hK.out _ _ hS2 (fun _ => ?_)
  clear hK K
  try simp only [Act.put, List.setIfInBounds_toArray, List.set_cons_zero, List.set_cons_succ]
  repeat (apply sched_take; (exact rfl); rfl; (intro W hW; obtain ⟨⟨q0, q1, q2⟩, q3⟩ := HF.out W hW; go_simp; (try with_reducible rfl)); simp only [Act.put, List.setIfInBounds_toArray, List.set_cons_zero, List.set_cons_succ])
  apply sched_run; (exact rfl); rfl; intro K hK; go_simp
  refine (putS_none _ c1 nd.seps _ (HN.out.seps.below (hW_below rfl hS2)) hc1 hss k (nd.seps.length - k) _ _ rfl (by rw [IntWalk.i64_in (_ - _) (by omega), IntWalk.i64_in _ (by omega)]; omega) (by omega) (halvesL nd (k + 1)).seps (by rw [HL.out, List.drop_of_length_le (by omega), List.append_nil])).mono ?_
  rintro e w3 ⟨⟨B1, d1, rfl, hown3⟩, hb3⟩
  have hS3 := hS2.step hb3
  have HO3 := Lib.hid hown3
  clear hown3
  refine hK.out _ _ hS3 (fun _ => ?_)
  clear hK K
  try simp only [Act.put, List.setIfInBounds_toArray, List.set_cons_zero, List.set_cons_succ]
  repeat (apply sched_take; (exact rfl); rfl; (intro W hW; obtain ⟨⟨q0, q1, q2⟩, q3⟩ := HF.out W hW; go_simp; (try with_reducible rfl)); simp only [Act.put, List.setIfInBounds_toArray, List.set_cons_zero, List.set_cons_succ])
  apply sched_run; (exact rfl); rfl; intro K hK; go_simp
  refine (putK_none _ c2 nd.kids _ (HN.out.kids.below (hW_below rfl hS3)) hc2 hks 0 (k + 1) _ _ rfl (by omega) (by omega) HKK.out (halvesR nd (k + 1)).kids (by rw [HRR.out]; simp)).mono ?_
  rintro e w4 ⟨⟨C0, e0, rfl, hown4⟩, hb4⟩
  have hS4 := hS3.step hb4
  have HO4 := Lib.hid hown4
  clear hown4
  refine hK.out _ _ hS4 (fun _ => ?_)
  clear hK K
  try simp only [Act.put, List.setIfInBounds_toArray, List.set_cons_zero, List.set_cons_succ]
  repeat (apply sched_take; (exact rfl); rfl; (intro W hW; obtain ⟨⟨q0, q1, q2⟩, q3⟩ := HF.out W hW; go_simp; (try with_reducible rfl)); simp only [Act.put, List.setIfInBounds_toArray, List.set_cons_zero, List.set_cons_succ])
  apply sched_run; (exact rfl); rfl; intro K hK; go_simp
  refine (putS_none _ c1 nd.seps _ (HN.out.seps.below (hW_below rfl hS4)) hc1 hss 0 (k + 1) _ _ rfl (by omega) (by omega) (halvesR nd (k + 1)).seps (by rw [HRR.out]; simp)).mono ?_
  rintro e w5 ⟨⟨C1, f1, rfl, hown5⟩, hb5⟩
  have hS5 := hS4.step hb5
  have HO5 := Lib.hid hown5
  clear hown5
  refine hK.out _ _ hS5 (fun _ => ?_)
  clear hK K
  try simp only [Act.put, List.setIfInBounds_toArray, List.set_cons_zero, List.set_cons_succ]
  repeat (apply sched_take; (exact rfl); rfl; (intro W hW; obtain ⟨⟨q0, q1, q2⟩, q3⟩ := HF.out W hW; go_simp; (try with_reducible rfl)); simp only [Act.put, List.setIfInBounds_toArray, List.set_cons_zero, List.set_cons_succ])
  apply sched_run; (exact rfl); rfl; intro K hK
  refine wp_store_box hS5 54 (.tmp 4) (.tmp 81) rfl _ rfl rfl info54 rfl ?_ ?_
  · simp [Value.oneCell']
  refine hK.out _ _ (hS5.setRow _ rfl) (fun hS6 => ?_)
  clear hK K
  refine sched_done ?_
  go_wp2
  refine bodyPost_ret (results_cell_row rfl _ _ (w.heap.size + 1) 54 _ (0, 0) _ rfl (hS5.2.setRow _ rfl).2 Try.underlying54 rfl info54) rfl ?_
  have hS : halvesS nd (k + 1) = nd.seps[k] := by rw [halvesS, if_neg HK.out, Nat.add_sub_cancel, List.getElem?_eq_getElem hki2]; rfl
  have e1 : (halvesL nd (k + 1)).pairs = [] := by rw [HL.out]
  have e2 : (halvesR nd (k + 1)).pairs = [] := by rw [HRR.out]
  have e3 : (halvesL nd (k + 1)).seps = nd.seps.take k := by rw [HL.out]
  have e4 : (halvesL nd (k + 1)).kids = nd.kids.take (k + 1) := by rw [HL.out]
  have e5 : (halvesR nd (k + 1)).seps = nd.seps.drop (k + 1) := by rw [HRR.out]
  have e6 : (halvesR nd (k + 1)).kids = nd.kids.drop (k + 1) := by rw [HRR.out]
  refine ⟨⟨none, 0, B1, d1, B0, d0⟩, ⟨none, 0, C1, f1, C0, e0⟩, w3.heap.size, ret_eq (by rw [vH, hS, e1, e2]; rfl), ?_, ?_, hW_below rfl (hS5.setRow _ rfl), by have := hb3.size; omega⟩
  · have hO2 := own_below HO2.out hb3
    have hO3 := HO3.out
    rw [e4] at hO2
    rw [e3] at hO3
    have h1 := OwN.branch (ownsRow_mono' (base' := w.heap.size + 1 + 1) hO2 (by simp [hW])) (ownsRow_mono' (base' := w.heap.size + 1 + 1) hO3 hg1) (Nat.le_refl _) (by rw [List.length_take]; omega) (by rw [List.length_take]; omega) (fun q hq => HKK.out q (List.mem_of_mem_take hq)) (fun q hq => HSK.out q (List.mem_of_mem_take hq))
    rw [HL.out]
    exact (((h1.below hb4).below hb5).setRow _ _ (by omega)).wide (by omega) (Nat.le_refl _)
  · have hO4 := own_below HO4.out hb5
    have hO5 := HO5.out
    rw [e6] at hO4
    rw [e5] at hO5
    have h1 := OwN.branch (ownsRow_mono' hO4 (Nat.le_refl _)) (ownsRow_mono' hO5 hb4.size) (Nat.le_refl _) (by rw [List.length_drop]; omega) (by rw [List.length_drop]; omega) (fun q hq => HKK.out q (List.mem_of_mem_drop hq)) (fun q hq => HSK.out q (List.mem_of_mem_drop hq))
    rw [HRR.out]
    exact (h1.setRow _ _ (hS3.2.lt)).wide (Nat.le_refl _) (by simp [World.setRow])

/-- May the node be cut there? -/
def cutOk (nd : NodeD) (k : Nat) : Prop := if nd.kids.length = 0 then 1 ≤ k ∧ k < nd.pairs.length else 1 ≤ k ∧ k ≤ nd.kids.length ∧ k ≤ nd.seps.length

theorem halves_c (A0 A1 A2 : Option Addr) (c0 c1 c2 : Nat) (nd : NodeD) (k : Nat) (w : World) (hN : RdN w A0 c0 A1 c1 A2 c2 nd) (h : cutOk nd k) :
    Calls Try.prog 77 #[vN A0 c0 A1 c1 A2 c2 nd, .int .i64 k] w fun e w' =>
      ∃ x y mid, e = .returned (vH x (halvesL nd k) (halvesS nd k) y (halvesR nd k)) ∧ x.own w' w.heap.size mid (halvesL nd k) ∧ y.own w' mid w'.heap.size (halvesR nd k) ∧ Below w.heap.size w w' ∧ w.heap.size ≤ mid := by
  unfold cutOk at h
  split at h
  · rename_i hk
    obtain ⟨j, rfl⟩ : ∃ j, k = j + 1 := ⟨k - 1, by omega⟩
    exact halves_leaf A0 A1 A2 c0 c1 c2 nd j w hN hk h.2
  · rename_i hk
    obtain ⟨j, rfl⟩ : ∃ j, k = j + 1 := ⟨k - 1, by omega⟩
    exact halves_branch A0 A1 A2 c0 c1 c2 nd j w hN hk h.2.1 h.2.2

end Go.Proofs.Ytajkoeodabmgeaa
