import Derived.Test.YtajkoeodabmgeaaB6
namespace Go.Proofs.Ytajkoeodabmgeaa
open Go.RowKit
set_option maxHeartbeats 2000000
set_option maxRecDepth 100000

def leafD (nd : NodeD) : Prop := nd.seps.length = 0 ∧ nd.kids.length = 0
instance (nd : NodeD) : Decidable (leafD nd) := by unfold leafD; infer_instance

/-- Is a node well shaped, in a frame that may be? -/
def shaped (pg : Int) (wd : Nat) (nd : NodeD) : Prop :=
  if leafD nd then rises (pg / 16) (nd.pairs.map (·.k)) ∧ ¬ ∃ p ∈ nd.pairs, pg / 8 < p.v.size
  else nd.pairs.length = 0 ∧ 2 ≤ nd.kids.length ∧ nd.seps.length + 1 = nd.kids.length ∧ (¬ ∃ k ∈ nd.kids, fitsB wd k.sum = false) ∧ rises (pg / 16) nd.seps
instance (pg : Int) (wd : Nat) (nd : NodeD) : Decidable (shaped pg wd nd) := by unfold shaped; infer_instance

def checkE (pg wd : Int) (nd : NodeD) : Int := if right pg wd = true then (if shaped pg wd.toNat nd then 0 else 70) else 2

theorem right_spec {pg wd : Int} (h : right pg wd = true) : (1024 ≤ pg ∧ pg ≤ 8192) ∧ 1 ≤ wd ∧ wd ≤ 32 := by
  have := of_decide_eq_true h
  omega

theorem check_wrong (pg wd : Int) (A0 A1 A2 : Option Addr) (c0 c1 c2 : Nat) (nd : NodeD) (w : World) (hr : right pg wd = false) :
    Calls Try.prog 74 #[vF pg wd, .agg #[.slice A0 nd.pairs.length c0, .slice A1 nd.seps.length c1, .slice A2 nd.kids.length c2]] w fun e w' => e = .returned (.int .i64 (checkE pg wd nd)) ∧ Below w.heap.size w w' := by
  have HR := Lib.hid hr
  clear hr
  go_enter Try.func74, Try.ntmps74
  go_wp2_with (go_at_call 41; refine (right_c pg wd _).mono ?_; rw [HR.out]; rintro e w1 ⟨rfl, hb⟩)
  go_ret
  exact ⟨ret_eq (show Value.int IntKind.i64 2 = _ by simp [checkE, HR.out]), ((Below.refl _ _).alloc (Nat.le_refl _) _).trans (below_a hb |>.mono (by simp))⟩

theorem below_aa {w w1 : World} {o o' : Obj} (hb : Below ((w.alloc o).alloc o').heap.size ((w.alloc o).alloc o') w1) : Below w.heap.size w w1 :=
  ((Below.refl _ _).alloc (Nat.le_refl _) _).trans ((below_a hb).mono (by simp))

/-- The cells of the two parameters' blocks, whatever was made behind them. -/
theorem two_boxes {w w1 : World} {a b c d e : Value} (h : Below (w.heap.size + 1 + 1) ((w.alloc (.cells #[a, b] 24)).alloc (.cells #[c, d, e] 29)) w1) :
    (w1.cell? ⟨w.heap.size, 0, none⟩ = some a ∧ w1.cell? ⟨w.heap.size, 1, none⟩ = some b) ∧
    (w1.cell? ⟨w.heap.size + 1, 0, none⟩ = some c ∧ w1.cell? ⟨w.heap.size + 1, 1, none⟩ = some d ∧ w1.cell? ⟨w.heap.size + 1, 2, none⟩ = some e) ∧ w.heap.size + 1 < w1.heap.size := by
  have h0 : w1.heap[w.heap.size]? = some (.cells #[a, b] 24 (0, 0)) := (h.block _ (by omega)).trans ((Below.heap_alloc _ _ _ (by simp)).trans (heap_alloc_new w _))
  have h1 : w1.heap[w.heap.size + 1]? = some (.cells #[c, d, e] 29 (0, 0)) := (h.block _ (by omega)).trans (alloc2_at w _ _)
  have := h.size
  simp only [World.size_alloc] at this
  exact ⟨⟨cell_of_row _ _ 0 _ _ _ h0, cell_of_row _ _ 1 _ _ _ h0⟩, ⟨cell_of_row _ _ 0 _ _ _ h1, cell_of_row _ _ 1 _ _ _ h1, cell_of_row _ _ 2 _ _ _ h1⟩, by omega⟩

theorem check_leaf (pg : Int) (wd : Nat) (A0 A1 A2 : Option Addr) (c0 c1 c2 : Nat) (nd : NodeD) (w : World) (hr : right pg wd = true) (hN : RdN w A0 c0 A1 c1 A2 c2 nd) (hlf : leafD nd) :
    Calls Try.prog 74 #[vF pg wd, .agg #[.slice A0 nd.pairs.length c0, .slice A1 nd.seps.length c1, .slice A2 nd.kids.length c2]] w fun e w' => e = .returned (.int .i64 (checkE pg wd nd)) ∧ Below w.heap.size w w' := by
  obtain ⟨⟨h0, h1⟩, h2, h3⟩ := right_spec hr
  have hfin : checkE pg wd nd = if risesB (pg / 16) (nd.pairs.map (·.k)) = true ∧ decide (∃ p ∈ nd.pairs, pg / 8 < p.v.size) = false then 0 else 70 := by
    simp only [checkE, hr, if_true, shaped, hlf, risesB, decide_eq_true_eq, decide_eq_false_iff_not]
  have HR := Lib.hid hr
  have HL := Lib.hid hlf
  have HF := Lib.hid hfin
  have hlf' : decide (nd.seps.length = 0 ∧ nd.kids.length = 0) = true := decide_eq_true hlf
  have HL' := Lib.hid hlf'
  have hPs : ∀ p ∈ nd.pairs, p.k.size ≤ 140737488355328 := fun p hp => (hN.pk p hp).1
  have hVs : ∀ p ∈ nd.pairs, p.v.size ≤ 140737488355328 := fun p hp => (hN.pk p hp).2
  have HPs := Lib.hid hPs
  have HVs := Lib.hid hVs
  clear hr hlf hfin hlf' hPs hVs
  cases hrs : risesB (pg / 16) (nd.pairs.map (·.k)) <;> cases hvs : decide (∃ p ∈ nd.pairs, pg / 8 < (p.v.size : Int))
  all_goals
    have HRS := Lib.hid hrs
    have HVS := Lib.hid hvs
    clear hrs hvs
    go_enter Try.func74, Try.ntmps74
    go_wp2_with (first
      | (go_at_call 41; refine (right_c pg wd _).mono ?_; rw [HR.out]; rintro e w1 ⟨rfl, hb⟩; have hBB : Below (w.heap.size + 1 + 1) ((w.alloc (.cells #[.int .i64 pg, .int .i64 (wd : Int)] 24)).alloc (.cells #[.slice A0 nd.pairs.length c0, .slice A1 nd.seps.length c1, .slice A2 nd.kids.length c2] 29)) w1 := (hb.mono (by simp)); clear hb; obtain ⟨⟨q0, q1⟩, ⟨q2, q3, q4⟩, q5⟩ := two_boxes hBB)
      | (go_at_call 93; refine (isLeaf_c _ _ _ _ _ _ _ _ _ _ true HL'.out).mono ?_; rintro e w1 ⟨rfl, hb⟩; have hBn := below_s0 hBB (by omega) hb; clear hBB hb q0 q1 q2 q3 q4 q5; have hBB := hBn; clear hBn; obtain ⟨⟨q0, q1⟩, ⟨q2, q3, q4⟩, q5⟩ := two_boxes hBB)
      | (go_at_call 95; refine (risesP_c A0 c0 nd.pairs pg wd _ ((hN.pairs.below (((Below.refl _ _).alloc (Nat.le_refl _) _).alloc (by simp) _)).below (hBB.mono (by simp))) hN.hp (by omega) h1 HPs.out).mono ?_; rw [HRS.out]; rintro e w1 ⟨rfl, hb⟩; have hBn := below_s0 hBB (by omega) hb; clear hBB hb q0 q1 q2 q3 q4 q5; have hBB := hBn; clear hBn; obtain ⟨⟨q0, q1⟩, ⟨q2, q3, q4⟩, q5⟩ := two_boxes hBB)
      | (go_at_call 97; refine (containsP_c A0 c0 nd.pairs pg wd w.heap.size _ ((hN.pairs.below (((Below.refl _ _).alloc (Nat.le_refl _) _).alloc (by simp) _)).below (hBB.mono (by simp))) hN.hp (by omega) h1 HVs.out q0 q1).mono ?_; rw [HVS.out]; rintro e w1 ⟨rfl, hb⟩; have hBn := below_s0 hBB (by omega) hb; clear hBB hb q0 q1 q2 q3 q4 q5; have hBB := hBn; clear hBn; obtain ⟨⟨q0, q1⟩, ⟨q2, q3, q4⟩, q5⟩ := two_boxes hBB))
    go_ret
    exact ⟨ret_eq (by rw [HF.out, HRS.out, HVS.out]; rfl), below_aa (hBB.mono (by simp))⟩

theorem check_branch (pg : Int) (wd : Nat) (A0 A1 A2 : Option Addr) (c0 c1 c2 : Nat) (nd : NodeD) (w : World) (hr : right pg wd = true) (hN : RdN w A0 c0 A1 c1 A2 c2 nd) (hlf : ¬ leafD nd) :
    Calls Try.prog 74 #[vF pg wd, .agg #[.slice A0 nd.pairs.length c0, .slice A1 nd.seps.length c1, .slice A2 nd.kids.length c2]] w fun e w' => e = .returned (.int .i64 (checkE pg wd nd)) ∧ Below w.heap.size w w' := by
  obtain ⟨⟨h0, h1⟩, h2, h3⟩ := right_spec hr
  have hfin : checkE pg wd nd = if nd.pairs.length = 0 ∧ 2 ≤ nd.kids.length ∧ nd.seps.length + 1 = nd.kids.length ∧ decide (∃ k ∈ nd.kids, fitsB wd k.sum = false) = false ∧ risesB (pg / 16) nd.seps = true then 0 else 70 := by
    simp only [checkE, hr, if_true, shaped, hlf, if_false, risesB, decide_eq_true_eq, decide_eq_false_iff_not, Int.toNat_natCast]
  have HR := Lib.hid hr
  have HL := Lib.hid hlf
  have HF := Lib.hid hfin
  have hlf' : decide (nd.seps.length = 0 ∧ nd.kids.length = 0) = false := decide_eq_false hlf
  have HL' := Lib.hid hlf'
  have HSs := Lib.hid hN.sk
  have HKs := Lib.hid hN.kk
  have hks := hN.hk
  clear hr hlf hfin hlf'
  have hcase : (¬ nd.pairs.length = 0) ∨ (nd.pairs.length = 0 ∧ ¬ 2 ≤ nd.kids.length) ∨ (nd.pairs.length = 0 ∧ 2 ≤ nd.kids.length ∧ ¬ nd.seps.length + 1 = nd.kids.length) ∨ (nd.pairs.length = 0 ∧ 2 ≤ nd.kids.length ∧ nd.seps.length + 1 = nd.kids.length) := by omega
  rcases hcase with hp | ⟨hp, hk⟩ | ⟨hp, hk, hs⟩ | ⟨hp, hk, hs⟩
  · have hp1 : 0 < nd.pairs.length := by omega
    have HP := Lib.hid hp
    clear hp
    go_enter Try.func74, Try.ntmps74
    go_wp2_with (first
      | (go_at_call 41; refine (right_c pg wd _).mono ?_; rw [HR.out]; rintro e w1 ⟨rfl, hb⟩; have hBB : Below (w.heap.size + 1 + 1) ((w.alloc (.cells #[.int .i64 pg, .int .i64 (wd : Int)] 24)).alloc (.cells #[.slice A0 nd.pairs.length c0, .slice A1 nd.seps.length c1, .slice A2 nd.kids.length c2] 29)) w1 := (hb.mono (by simp)); clear hb; obtain ⟨⟨q0, q1⟩, ⟨q2, q3, q4⟩, q5⟩ := two_boxes hBB)
      | (go_at_call 93; refine (isLeaf_c _ _ _ _ _ _ _ _ _ _ false HL'.out).mono ?_; rintro e w1 ⟨rfl, hb⟩; have hBn := below_s0 hBB (by omega) hb; clear hBB hb q0 q1 q2 q3 q4 q5; have hBB := hBn; clear hBn; obtain ⟨⟨q0, q1⟩, ⟨q2, q3, q4⟩, q5⟩ := two_boxes hBB)
      | (go_at_call 100; refine (containsK_c A2 c2 nd.kids wd w.heap.size _ ((hN.kids.below (((Below.refl _ _).alloc (Nat.le_refl _) _).alloc (by simp) _)).below (hBB.mono (by simp))) hN.hk (by omega) (by omega) HKs.out q1).mono ?_; rw [HFS.out]; rintro e w1 ⟨rfl, hb⟩; have hBn := below_s0 hBB (by omega) hb; clear hBB hb q0 q1 q2 q3 q4 q5; have hBB := hBn; clear hBn; obtain ⟨⟨q0, q1⟩, ⟨q2, q3, q4⟩, q5⟩ := two_boxes hBB)
      | (go_at_call 101; refine (risesS_c A1 c1 nd.seps pg wd _ ((hN.seps.below (((Below.refl _ _).alloc (Nat.le_refl _) _).alloc (by simp) _)).below (hBB.mono (by simp))) hN.hs (by omega) h1 HSs.out).mono ?_; rw [HRS.out]; rintro e w1 ⟨rfl, hb⟩; have hBn := below_s0 hBB (by omega) hb; clear hBB hb q0 q1 q2 q3 q4 q5; have hBB := hBn; clear hBn; obtain ⟨⟨q0, q1⟩, ⟨q2, q3, q4⟩, q5⟩ := two_boxes hBB))
    go_ret
    exact ⟨ret_eq (by rw [HF.out, if_neg (fun h => HP.out h.1)]; rfl), below_aa (hBB.mono (by simp))⟩
  · have HP := Lib.hid hp
    have hp1 : ¬ 0 < nd.pairs.length := by omega
    have hk1 : nd.kids.length < 2 := by omega
    have HK := Lib.hid hk
    clear hp hk
    go_enter Try.func74, Try.ntmps74
    go_wp2_with (first
      | (go_at_call 41; refine (right_c pg wd _).mono ?_; rw [HR.out]; rintro e w1 ⟨rfl, hb⟩; have hBB : Below (w.heap.size + 1 + 1) ((w.alloc (.cells #[.int .i64 pg, .int .i64 (wd : Int)] 24)).alloc (.cells #[.slice A0 nd.pairs.length c0, .slice A1 nd.seps.length c1, .slice A2 nd.kids.length c2] 29)) w1 := (hb.mono (by simp)); clear hb; obtain ⟨⟨q0, q1⟩, ⟨q2, q3, q4⟩, q5⟩ := two_boxes hBB)
      | (go_at_call 93; refine (isLeaf_c _ _ _ _ _ _ _ _ _ _ false HL'.out).mono ?_; rintro e w1 ⟨rfl, hb⟩; have hBn := below_s0 hBB (by omega) hb; clear hBB hb q0 q1 q2 q3 q4 q5; have hBB := hBn; clear hBn; obtain ⟨⟨q0, q1⟩, ⟨q2, q3, q4⟩, q5⟩ := two_boxes hBB)
      | (go_at_call 100; refine (containsK_c A2 c2 nd.kids wd w.heap.size _ ((hN.kids.below (((Below.refl _ _).alloc (Nat.le_refl _) _).alloc (by simp) _)).below (hBB.mono (by simp))) hN.hk (by omega) (by omega) HKs.out q1).mono ?_; rw [HFS.out]; rintro e w1 ⟨rfl, hb⟩; have hBn := below_s0 hBB (by omega) hb; clear hBB hb q0 q1 q2 q3 q4 q5; have hBB := hBn; clear hBn; obtain ⟨⟨q0, q1⟩, ⟨q2, q3, q4⟩, q5⟩ := two_boxes hBB)
      | (go_at_call 101; refine (risesS_c A1 c1 nd.seps pg wd _ ((hN.seps.below (((Below.refl _ _).alloc (Nat.le_refl _) _).alloc (by simp) _)).below (hBB.mono (by simp))) hN.hs (by omega) h1 HSs.out).mono ?_; rw [HRS.out]; rintro e w1 ⟨rfl, hb⟩; have hBn := below_s0 hBB (by omega) hb; clear hBB hb q0 q1 q2 q3 q4 q5; have hBB := hBn; clear hBn; obtain ⟨⟨q0, q1⟩, ⟨q2, q3, q4⟩, q5⟩ := two_boxes hBB))
    go_ret
    exact ⟨ret_eq (by rw [HF.out, if_neg (fun h => HK.out h.2.1)]; rfl), below_aa (hBB.mono (by simp))⟩
  · have HP := Lib.hid hp
    have hp1 : ¬ 0 < nd.pairs.length := by omega
    have hk1 : ¬ nd.kids.length < 2 := by omega
    have hs1 : ((nd.seps.length : Int) != (nd.kids.length : Int) - 1) = true := by rw [bne_iff_ne]; omega
    have HS := Lib.hid hs
    clear hp hk hs
    go_enter Try.func74, Try.ntmps74
    go_wp2_with (first
      | (go_at_call 41; refine (right_c pg wd _).mono ?_; rw [HR.out]; rintro e w1 ⟨rfl, hb⟩; have hBB : Below (w.heap.size + 1 + 1) ((w.alloc (.cells #[.int .i64 pg, .int .i64 (wd : Int)] 24)).alloc (.cells #[.slice A0 nd.pairs.length c0, .slice A1 nd.seps.length c1, .slice A2 nd.kids.length c2] 29)) w1 := (hb.mono (by simp)); clear hb; obtain ⟨⟨q0, q1⟩, ⟨q2, q3, q4⟩, q5⟩ := two_boxes hBB)
      | (go_at_call 93; refine (isLeaf_c _ _ _ _ _ _ _ _ _ _ false HL'.out).mono ?_; rintro e w1 ⟨rfl, hb⟩; have hBn := below_s0 hBB (by omega) hb; clear hBB hb q0 q1 q2 q3 q4 q5; have hBB := hBn; clear hBn; obtain ⟨⟨q0, q1⟩, ⟨q2, q3, q4⟩, q5⟩ := two_boxes hBB)
      | (go_at_call 100; refine (containsK_c A2 c2 nd.kids wd w.heap.size _ ((hN.kids.below (((Below.refl _ _).alloc (Nat.le_refl _) _).alloc (by simp) _)).below (hBB.mono (by simp))) hN.hk (by omega) (by omega) HKs.out q1).mono ?_; rw [HFS.out]; rintro e w1 ⟨rfl, hb⟩; have hBn := below_s0 hBB (by omega) hb; clear hBB hb q0 q1 q2 q3 q4 q5; have hBB := hBn; clear hBn; obtain ⟨⟨q0, q1⟩, ⟨q2, q3, q4⟩, q5⟩ := two_boxes hBB)
      | (go_at_call 101; refine (risesS_c A1 c1 nd.seps pg wd _ ((hN.seps.below (((Below.refl _ _).alloc (Nat.le_refl _) _).alloc (by simp) _)).below (hBB.mono (by simp))) hN.hs (by omega) h1 HSs.out).mono ?_; rw [HRS.out]; rintro e w1 ⟨rfl, hb⟩; have hBn := below_s0 hBB (by omega) hb; clear hBB hb q0 q1 q2 q3 q4 q5; have hBB := hBn; clear hBn; obtain ⟨⟨q0, q1⟩, ⟨q2, q3, q4⟩, q5⟩ := two_boxes hBB))
    go_ret
    exact ⟨ret_eq (by rw [HF.out, if_neg (fun h => HS.out h.2.2.1)]; rfl), below_aa (hBB.mono (by simp))⟩
  · have HP := Lib.hid hp
    have hp1 : ¬ 0 < nd.pairs.length := by omega
    have hk1 : ¬ nd.kids.length < 2 := by omega
    have hs1 : ((nd.seps.length : Int) != (nd.kids.length : Int) - 1) = false := by rw [bne_eq_false_iff_eq]; omega
    have HS := Lib.hid hs
    have HK := Lib.hid hk
    clear hp hk hs
    cases hfs : decide (∃ k ∈ nd.kids, fitsB wd k.sum = false) <;> cases hrs : risesB (pg / 16) nd.seps
    all_goals
      have HRS := Lib.hid hrs
      have HFS := Lib.hid hfs
      clear hrs hfs
      go_enter Try.func74, Try.ntmps74
      go_wp2_with (first
      | (go_at_call 41; refine (right_c pg wd _).mono ?_; rw [HR.out]; rintro e w1 ⟨rfl, hb⟩; have hBB : Below (w.heap.size + 1 + 1) ((w.alloc (.cells #[.int .i64 pg, .int .i64 (wd : Int)] 24)).alloc (.cells #[.slice A0 nd.pairs.length c0, .slice A1 nd.seps.length c1, .slice A2 nd.kids.length c2] 29)) w1 := (hb.mono (by simp)); clear hb; obtain ⟨⟨q0, q1⟩, ⟨q2, q3, q4⟩, q5⟩ := two_boxes hBB)
      | (go_at_call 93; refine (isLeaf_c _ _ _ _ _ _ _ _ _ _ false HL'.out).mono ?_; rintro e w1 ⟨rfl, hb⟩; have hBn := below_s0 hBB (by omega) hb; clear hBB hb q0 q1 q2 q3 q4 q5; have hBB := hBn; clear hBn; obtain ⟨⟨q0, q1⟩, ⟨q2, q3, q4⟩, q5⟩ := two_boxes hBB)
      | (go_at_call 100; refine (containsK_c A2 c2 nd.kids wd w.heap.size _ ((hN.kids.below (((Below.refl _ _).alloc (Nat.le_refl _) _).alloc (by simp) _)).below (hBB.mono (by simp))) hN.hk (by omega) (by omega) HKs.out q1).mono ?_; rw [HFS.out]; rintro e w1 ⟨rfl, hb⟩; have hBn := below_s0 hBB (by omega) hb; clear hBB hb q0 q1 q2 q3 q4 q5; have hBB := hBn; clear hBn; obtain ⟨⟨q0, q1⟩, ⟨q2, q3, q4⟩, q5⟩ := two_boxes hBB)
      | (go_at_call 101; refine (risesS_c A1 c1 nd.seps pg wd _ ((hN.seps.below (((Below.refl _ _).alloc (Nat.le_refl _) _).alloc (by simp) _)).below (hBB.mono (by simp))) hN.hs (by omega) h1 HSs.out).mono ?_; rw [HRS.out]; rintro e w1 ⟨rfl, hb⟩; have hBn := below_s0 hBB (by omega) hb; clear hBB hb q0 q1 q2 q3 q4 q5; have hBB := hBn; clear hBn; obtain ⟨⟨q0, q1⟩, ⟨q2, q3, q4⟩, q5⟩ := two_boxes hBB))
      go_ret
      exact ⟨ret_eq (by rw [HF.out, HRS.out, HFS.out]; simp [HP.out, HK.out, HS.out]), below_aa (hBB.mono (by simp))⟩

theorem check_c (pg wd : Int) (A0 A1 A2 : Option Addr) (c0 c1 c2 : Nat) (nd : NodeD) (w : World) (hN : RdN w A0 c0 A1 c1 A2 c2 nd) :
    Calls Try.prog 74 #[vF pg wd, .agg #[.slice A0 nd.pairs.length c0, .slice A1 nd.seps.length c1, .slice A2 nd.kids.length c2]] w fun e w' => e = .returned (.int .i64 (checkE pg wd nd)) ∧ Below w.heap.size w w' := by
  cases hr : right pg wd with
  | false => exact check_wrong pg wd A0 A1 A2 c0 c1 c2 nd w hr
  | true =>
    obtain ⟨wn, rfl⟩ : ∃ n : Nat, wd = n := ⟨wd.toNat, by have := right_spec hr; omega⟩
    by_cases h : leafD nd
    · exact check_leaf pg wn A0 A1 A2 c0 c1 c2 nd w hr hN h
    · exact check_branch pg wn A0 A1 A2 c0 c1 c2 nd w hr hN h

end Go.Proofs.Ytajkoeodabmgeaa
