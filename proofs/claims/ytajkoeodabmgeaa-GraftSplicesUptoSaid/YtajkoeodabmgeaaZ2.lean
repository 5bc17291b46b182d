import Derived.Test.YtajkoeodabmgeaaZ1
import GoSem.Op.String

section
namespace Go.Proofs.Ytajkoeodabmgeaa
open Go.RowKit
set_option maxHeartbeats 2000000
set_option maxRecDepth 100000

def leafD (nd : NodeD) : Prop := nd.seps.length = 0 ∧ nd.kids.length = 0
instance (nd : NodeD) : Decidable (leafD nd) := by unfold leafD; infer_instance

/-- Is a node well shaped, in a frame that may be? -/
def shaped (pg : Int) (wd : Nat) (nd : NodeD) : Prop :=
  if leafD nd then rises (pg / 16) (nd.pairs.map (·.k)) ∧ ¬ ∃ p ∈ nd.pairs, pg / 8 < p.v.size
  else nd.pairs.length = 0 ∧ 2 ≤ nd.kids.length ∧ nd.seps.length + 1 = nd.kids.length ∧ (¬ ∃ k ∈ nd.kids, fitsB wd k.sum = false) ∧ rises (pg / 16) nd.seps
instance (pg : Int) (wd : Nat) (nd : NodeD) : Decidable (shaped pg wd nd) := by unfold shaped; infer_instance

def checkE (pg wd : Int) (nd : NodeD) : Int := if right pg wd = true then (if shaped pg wd.toNat nd then 0 else 70) else 2

theorem right_spec {pg wd : Int} (h : right pg wd = true) : (1024 ≤ pg ∧ pg ≤ 8192) ∧ 1 ≤ wd ∧ wd ≤ 32 := by
  have := of_decide_eq_true h
  omega

theorem check_wrong (pg wd : Int) (A0 A1 A2 : Option Addr) (c0 c1 c2 : Nat) (nd : NodeD) (w : World) (hr : right pg wd = false) :
    Calls Try.prog 74 #[vF pg wd, .agg #[.slice A0 nd.pairs.length c0, .slice A1 nd.seps.length c1, .slice A2 nd.kids.length c2]] w fun e w' => e = .returned (.int .i64 (checkE pg wd nd)) ∧ Below w.heap.size w w' := by
  have HR := Lib.hid hr
  clear hr
  go_enter Try.func74, Try.ntmps74
  go_wp2_with (go_at_call 41; refine (right_c pg wd _).mono ?_; rw [HR.out]; rintro e w1 ⟨rfl, hb⟩)
  go_ret
  exact ⟨ret_eq (show Value.int IntKind.i64 2 = _ by simp [checkE, HR.out]), ((Below.refl _ _).alloc (Nat.le_refl _) _).trans (below_a hb |>.mono (by simp))⟩

theorem below_aa {w w1 : World} {o o' : Obj} (hb : Below ((w.alloc o).alloc o').heap.size ((w.alloc o).alloc o') w1) : Below w.heap.size w w1 :=
  ((Below.refl _ _).alloc (Nat.le_refl _) _).trans ((below_a hb).mono (by simp))

/-- The cells of the two parameters' blocks, whatever was made behind them. -/
theorem two_boxes {w w1 : World} {a b c d e : Value} (h : Below (w.heap.size + 1 + 1) ((w.alloc (.cells #[a, b] 24)).alloc (.cells #[c, d, e] 29)) w1) :
    (w1.cell? ⟨w.heap.size, 0, none⟩ = some a ∧ w1.cell? ⟨w.heap.size, 1, none⟩ = some b) ∧
    (w1.cell? ⟨w.heap.size + 1, 0, none⟩ = some c ∧ w1.cell? ⟨w.heap.size + 1, 1, none⟩ = some d ∧ w1.cell? ⟨w.heap.size + 1, 2, none⟩ = some e) ∧ w.heap.size + 1 < w1.heap.size := by
  have h0 : w1.heap[w.heap.size]? = some (.cells #[a, b] 24 (0, 0)) := (h.block _ (by omega)).trans ((Below.heap_alloc _ _ _ (by simp)).trans (heap_alloc_new w _))
  have h1 : w1.heap[w.heap.size + 1]? = some (.cells #[c, d, e] 29 (0, 0)) := (h.block _ (by omega)).trans (alloc2_at w _ _)
  have := h.size
  simp only [World.size_alloc] at this
  exact ⟨⟨cell_of_row _ _ 0 _ _ _ h0, cell_of_row _ _ 1 _ _ _ h0⟩, ⟨cell_of_row _ _ 0 _ _ _ h1, cell_of_row _ _ 1 _ _ _ h1, cell_of_row _ _ 2 _ _ _ h1⟩, by omega⟩

theorem check_leaf (pg : Int) (wd : Nat) (A0 A1 A2 : Option Addr) (c0 c1 c2 : Nat) (nd : NodeD) (w : World) (hr : right pg wd = true) (hN : RdN w A0 c0 A1 c1 A2 c2 nd) (hlf : leafD nd) :
    Calls Try.prog 74 #[vF pg wd, .agg #[.slice A0 nd.pairs.length c0, .slice A1 nd.seps.length c1, .slice A2 nd.kids.length c2]] w fun e w' => e = .returned (.int .i64 (checkE pg wd nd)) ∧ Below w.heap.size w w' := by
  obtain ⟨⟨h0, h1⟩, h2, h3⟩ := right_spec hr
  have hfin : checkE pg wd nd = if risesB (pg / 16) (nd.pairs.map (·.k)) = true ∧ decide (∃ p ∈ nd.pairs, pg / 8 < p.v.size) = false then 0 else 70 := by
    simp only [checkE, hr, if_true, shaped, hlf, risesB, decide_eq_true_eq, decide_eq_false_iff_not]
  have HR := Lib.hid hr
  have HL := Lib.hid hlf
  have HF := Lib.hid hfin
  have hlf' : decide (nd.seps.length = 0 ∧ nd.kids.length = 0) = true := decide_eq_true hlf
  have HL' := Lib.hid hlf'
  have hPs : ∀ p ∈ nd.pairs, p.k.size ≤ 140737488355328 := fun p hp => (hN.pk p hp).1
  have hVs : ∀ p ∈ nd.pairs, p.v.size ≤ 140737488355328 := fun p hp => (hN.pk p hp).2
  have HPs := Lib.hid hPs
  have HVs := Lib.hid hVs
  clear hr hlf hfin hlf' hPs hVs
  cases hrs : risesB (pg / 16) (nd.pairs.map (·.k)) <;> cases hvs : decide (∃ p ∈ nd.pairs, pg / 8 < (p.v.size : Int))
  all_goals
    have HRS := Lib.hid hrs
    have HVS := Lib.hid hvs
    clear hrs hvs
    go_enter Try.func74, Try.ntmps74
    go_wp2_with (first
      | (go_at_call 41; refine (right_c pg wd _).mono ?_; rw [HR.out]; rintro e w1 ⟨rfl, hb⟩; have hBB : Below (w.heap.size + 1 + 1) ((w.alloc (.cells #[.int .i64 pg, .int .i64 (wd : Int)] 24)).alloc (.cells #[.slice A0 nd.pairs.length c0, .slice A1 nd.seps.length c1, .slice A2 nd.kids.length c2] 29)) w1 := (hb.mono (by simp)); clear hb; obtain ⟨⟨q0, q1⟩, ⟨q2, q3, q4⟩, q5⟩ := two_boxes hBB)
      | (go_at_call 93; refine (isLeaf_c _ _ _ _ _ _ _ _ _ _ true HL'.out).mono ?_; rintro e w1 ⟨rfl, hb⟩; have hBn := below_s0 hBB (by omega) hb; clear hBB hb q0 q1 q2 q3 q4 q5; have hBB := hBn; clear hBn; obtain ⟨⟨q0, q1⟩, ⟨q2, q3, q4⟩, q5⟩ := two_boxes hBB)
      | (go_at_call 95; refine (risesP_c A0 c0 nd.pairs pg wd _ ((hN.pairs.below (((Below.refl _ _).alloc (Nat.le_refl _) _).alloc (by simp) _)).below (hBB.mono (by simp))) hN.hp (by omega) h1 HPs.out).mono ?_; rw [HRS.out]; rintro e w1 ⟨rfl, hb⟩; have hBn := below_s0 hBB (by omega) hb; clear hBB hb q0 q1 q2 q3 q4 q5; have hBB := hBn; clear hBn; obtain ⟨⟨q0, q1⟩, ⟨q2, q3, q4⟩, q5⟩ := two_boxes hBB)
      | (go_at_call 97; refine (containsP_c A0 c0 nd.pairs pg wd w.heap.size _ ((hN.pairs.below (((Below.refl _ _).alloc (Nat.le_refl _) _).alloc (by simp) _)).below (hBB.mono (by simp))) hN.hp (by omega) h1 HVs.out q0 q1).mono ?_; rw [HVS.out]; rintro e w1 ⟨rfl, hb⟩; have hBn := below_s0 hBB (by omega) hb; clear hBB hb q0 q1 q2 q3 q4 q5; have hBB := hBn; clear hBn; obtain ⟨⟨q0, q1⟩, ⟨q2, q3, q4⟩, q5⟩ := two_boxes hBB))
    go_ret
    exact ⟨ret_eq (by rw [HF.out, HRS.out, HVS.out]; rfl), below_aa (hBB.mono (by simp))⟩

theorem check_branch (pg : Int) (wd : Nat) (A0 A1 A2 : Option Addr) (c0 c1 c2 : Nat) (nd : NodeD) (w : World) (hr : right pg wd = true) (hN : RdN w A0 c0 A1 c1 A2 c2 nd) (hlf : ¬ leafD nd) :
    Calls Try.prog 74 #[vF pg wd, .agg #[.slice A0 nd.pairs.length c0, .slice A1 nd.seps.length c1, .slice A2 nd.kids.length c2]] w fun e w' => e = .returned (.int .i64 (checkE pg wd nd)) ∧ Below w.heap.size w w' := by
  obtain ⟨⟨h0, h1⟩, h2, h3⟩ := right_spec hr
  have hfin : checkE pg wd nd = if nd.pairs.length = 0 ∧ 2 ≤ nd.kids.length ∧ nd.seps.length + 1 = nd.kids.length ∧ decide (∃ k ∈ nd.kids, fitsB wd k.sum = false) = false ∧ risesB (pg / 16) nd.seps = true then 0 else 70 := by
    simp only [checkE, hr, if_true, shaped, hlf, if_false, risesB, decide_eq_true_eq, decide_eq_false_iff_not, Int.toNat_natCast]
  have HR := Lib.hid hr
  have HL := Lib.hid hlf
  have HF := Lib.hid hfin
  have hlf' : decide (nd.seps.length = 0 ∧ nd.kids.length = 0) = false := decide_eq_false hlf
  have HL' := Lib.hid hlf'
  have HSs := Lib.hid hN.sk
  have HKs := Lib.hid hN.kk
  have hks := hN.hk
  clear hr hlf hfin hlf'
  have hcase : (¬ nd.pairs.length = 0) ∨ (nd.pairs.length = 0 ∧ ¬ 2 ≤ nd.kids.length) ∨ (nd.pairs.length = 0 ∧ 2 ≤ nd.kids.length ∧ ¬ nd.seps.length + 1 = nd.kids.length) ∨ (nd.pairs.length = 0 ∧ 2 ≤ nd.kids.length ∧ nd.seps.length + 1 = nd.kids.length) := by omega
  rcases hcase with hp | ⟨hp, hk⟩ | ⟨hp, hk, hs⟩ | ⟨hp, hk, hs⟩
  · have hp1 : 0 < nd.pairs.length := by omega
    have HP := Lib.hid hp
    clear hp
    go_enter Try.func74, Try.ntmps74
    go_wp2_with (first
      | (go_at_call 41; refine (right_c pg wd _).mono ?_; rw [HR.out]; rintro e w1 ⟨rfl, hb⟩; have hBB : Below (w.heap.size + 1 + 1) ((w.alloc (.cells #[.int .i64 pg, .int .i64 (wd : Int)] 24)).alloc (.cells #[.slice A0 nd.pairs.length c0, .slice A1 nd.seps.length c1, .slice A2 nd.kids.length c2] 29)) w1 := (hb.mono (by simp)); clear hb; obtain ⟨⟨q0, q1⟩, ⟨q2, q3, q4⟩, q5⟩ := two_boxes hBB)
      | (go_at_call 93; refine (isLeaf_c _ _ _ _ _ _ _ _ _ _ false HL'.out).mono ?_; rintro e w1 ⟨rfl, hb⟩; have hBn := below_s0 hBB (by omega) hb; clear hBB hb q0 q1 q2 q3 q4 q5; have hBB := hBn; clear hBn; obtain ⟨⟨q0, q1⟩, ⟨q2, q3, q4⟩, q5⟩ := two_boxes hBB)
      | (go_at_call 100; refine (containsK_c A2 c2 nd.kids wd w.heap.size _ ((hN.kids.below (((Below.refl _ _).alloc (Nat.le_refl _) _).alloc (by simp) _)).below (hBB.mono (by simp))) hN.hk (by omega) (by omega) HKs.out q1).mono ?_; rw [HFS.out]; rintro e w1 ⟨rfl, hb⟩; have hBn := below_s0 hBB (by omega) hb; clear hBB hb q0 q1 q2 q3 q4 q5; have hBB := hBn; clear hBn; obtain ⟨⟨q0, q1⟩, ⟨q2, q3, q4⟩, q5⟩ := two_boxes hBB)
      | (go_at_call 101; refine (risesS_c A1 c1 nd.seps pg wd _ ((hN.seps.below (((Below.refl _ _).alloc (Nat.le_refl _) _).alloc (by simp) _)).below (hBB.mono (by simp))) hN.hs (by omega) h1 HSs.out).mono ?_; rw [HRS.out]; rintro e w1 ⟨rfl, hb⟩; have hBn := below_s0 hBB (by omega) hb; clear hBB hb q0 q1 q2 q3 q4 q5; have hBB := hBn; clear hBn; obtain ⟨⟨q0, q1⟩, ⟨q2, q3, q4⟩, q5⟩ := two_boxes hBB))
    go_ret
    exact ⟨ret_eq (by rw [HF.out, if_neg (fun h => HP.out h.1)]; rfl), below_aa (hBB.mono (by simp))⟩
  · have HP := Lib.hid hp
    have hp1 : ¬ 0 < nd.pairs.length := by omega
    have hk1 : nd.kids.length < 2 := by omega
    have HK := Lib.hid hk
    clear hp hk
    go_enter Try.func74, Try.ntmps74
    go_wp2_with (first
      | (go_at_call 41; refine (right_c pg wd _).mono ?_; rw [HR.out]; rintro e w1 ⟨rfl, hb⟩; have hBB : Below (w.heap.size + 1 + 1) ((w.alloc (.cells #[.int .i64 pg, .int .i64 (wd : Int)] 24)).alloc (.cells #[.slice A0 nd.pairs.length c0, .slice A1 nd.seps.length c1, .slice A2 nd.kids.length c2] 29)) w1 := (hb.mono (by simp)); clear hb; obtain ⟨⟨q0, q1⟩, ⟨q2, q3, q4⟩, q5⟩ := two_boxes hBB)
      | (go_at_call 93; refine (isLeaf_c _ _ _ _ _ _ _ _ _ _ false HL'.out).mono ?_; rintro e w1 ⟨rfl, hb⟩; have hBn := below_s0 hBB (by omega) hb; clear hBB hb q0 q1 q2 q3 q4 q5; have hBB := hBn; clear hBn; obtain ⟨⟨q0, q1⟩, ⟨q2, q3, q4⟩, q5⟩ := two_boxes hBB)
      | (go_at_call 100; refine (containsK_c A2 c2 nd.kids wd w.heap.size _ ((hN.kids.below (((Below.refl _ _).alloc (Nat.le_refl _) _).alloc (by simp) _)).below (hBB.mono (by simp))) hN.hk (by omega) (by omega) HKs.out q1).mono ?_; rw [HFS.out]; rintro e w1 ⟨rfl, hb⟩; have hBn := below_s0 hBB (by omega) hb; clear hBB hb q0 q1 q2 q3 q4 q5; have hBB := hBn; clear hBn; obtain ⟨⟨q0, q1⟩, ⟨q2, q3, q4⟩, q5⟩ := two_boxes hBB)
      | (go_at_call 101; refine (risesS_c A1 c1 nd.seps pg wd _ ((hN.seps.below (((Below.refl _ _).alloc (Nat.le_refl _) _).alloc (by simp) _)).below (hBB.mono (by simp))) hN.hs (by omega) h1 HSs.out).mono ?_; rw [HRS.out]; rintro e w1 ⟨rfl, hb⟩; have hBn := below_s0 hBB (by omega) hb; clear hBB hb q0 q1 q2 q3 q4 q5; have hBB := hBn; clear hBn; obtain ⟨⟨q0, q1⟩, ⟨q2, q3, q4⟩, q5⟩ := two_boxes hBB))
    go_ret
    exact ⟨ret_eq (by rw [HF.out, if_neg (fun h => HK.out h.2.1)]; rfl), below_aa (hBB.mono (by simp))⟩
  · have HP := Lib.hid hp
    have hp1 : ¬ 0 < nd.pairs.length := by omega
    have hk1 : ¬ nd.kids.length < 2 := by omega
    have hs1 : ((nd.seps.length : Int) != (nd.kids.length : Int) - 1) = true := by rw [bne_iff_ne]; omega
    have HS := Lib.hid hs
    clear hp hk hs
    go_enter Try.func74, Try.ntmps74
    go_wp2_with (first
      | (go_at_call 41; refine (right_c pg wd _).mono ?_; rw [HR.out]; rintro e w1 ⟨rfl, hb⟩; have hBB : Below (w.heap.size + 1 + 1) ((w.alloc (.cells #[.int .i64 pg, .int .i64 (wd : Int)] 24)).alloc (.cells #[.slice A0 nd.pairs.length c0, .slice A1 nd.seps.length c1, .slice A2 nd.kids.length c2] 29)) w1 := (hb.mono (by simp)); clear hb; obtain ⟨⟨q0, q1⟩, ⟨q2, q3, q4⟩, q5⟩ := two_boxes hBB)
      | (go_at_call 93; refine (isLeaf_c _ _ _ _ _ _ _ _ _ _ false HL'.out).mono ?_; rintro e w1 ⟨rfl, hb⟩; have hBn := below_s0 hBB (by omega) hb; clear hBB hb q0 q1 q2 q3 q4 q5; have hBB := hBn; clear hBn; obtain ⟨⟨q0, q1⟩, ⟨q2, q3, q4⟩, q5⟩ := two_boxes hBB)
      | (go_at_call 100; refine (containsK_c A2 c2 nd.kids wd w.heap.size _ ((hN.kids.below (((Below.refl _ _).alloc (Nat.le_refl _) _).alloc (by simp) _)).below (hBB.mono (by simp))) hN.hk (by omega) (by omega) HKs.out q1).mono ?_; rw [HFS.out]; rintro e w1 ⟨rfl, hb⟩; have hBn := below_s0 hBB (by omega) hb; clear hBB hb q0 q1 q2 q3 q4 q5; have hBB := hBn; clear hBn; obtain ⟨⟨q0, q1⟩, ⟨q2, q3, q4⟩, q5⟩ := two_boxes hBB)
      | (go_at_call 101; refine (risesS_c A1 c1 nd.seps pg wd _ ((hN.seps.below (((Below.refl _ _).alloc (Nat.le_refl _) _).alloc (by simp) _)).below (hBB.mono (by simp))) hN.hs (by omega) h1 HSs.out).mono ?_; rw [HRS.out]; rintro e w1 ⟨rfl, hb⟩; have hBn := below_s0 hBB (by omega) hb; clear hBB hb q0 q1 q2 q3 q4 q5; have hBB := hBn; clear hBn; obtain ⟨⟨q0, q1⟩, ⟨q2, q3, q4⟩, q5⟩ := two_boxes hBB))
    go_ret
    exact ⟨ret_eq (by rw [HF.out, if_neg (fun h => HS.out h.2.2.1)]; rfl), below_aa (hBB.mono (by simp))⟩
  · have HP := Lib.hid hp
    have hp1 : ¬ 0 < nd.pairs.length := by omega
    have hk1 : ¬ nd.kids.length < 2 := by omega
    have hs1 : ((nd.seps.length : Int) != (nd.kids.length : Int) - 1) = false := by rw [bne_eq_false_iff_eq]; omega
    have HS := Lib.hid hs
    have HK := Lib.hid hk
    clear hp hk hs
    cases hfs : decide (∃ k ∈ nd.kids, fitsB wd k.sum = false) <;> cases hrs : risesB (pg / 16) nd.seps
    all_goals
      have HRS := Lib.hid hrs
      have HFS := Lib.hid hfs
      clear hrs hfs
      go_enter Try.func74, Try.ntmps74
      go_wp2_with (first
      | (go_at_call 41; refine (right_c pg wd _).mono ?_; rw [HR.out]; rintro e w1 ⟨rfl, hb⟩; have hBB : Below (w.heap.size + 1 + 1) ((w.alloc (.cells #[.int .i64 pg, .int .i64 (wd : Int)] 24)).alloc (.cells #[.slice A0 nd.pairs.length c0, .slice A1 nd.seps.length c1, .slice A2 nd.kids.length c2] 29)) w1 := (hb.mono (by simp)); clear hb; obtain ⟨⟨q0, q1⟩, ⟨q2, q3, q4⟩, q5⟩ := two_boxes hBB)
      | (go_at_call 93; refine (isLeaf_c _ _ _ _ _ _ _ _ _ _ false HL'.out).mono ?_; rintro e w1 ⟨rfl, hb⟩; have hBn := below_s0 hBB (by omega) hb; clear hBB hb q0 q1 q2 q3 q4 q5; have hBB := hBn; clear hBn; obtain ⟨⟨q0, q1⟩, ⟨q2, q3, q4⟩, q5⟩ := two_boxes hBB)
      | (go_at_call 100; refine (containsK_c A2 c2 nd.kids wd w.heap.size _ ((hN.kids.below (((Below.refl _ _).alloc (Nat.le_refl _) _).alloc (by simp) _)).below (hBB.mono (by simp))) hN.hk (by omega) (by omega) HKs.out q1).mono ?_; rw [HFS.out]; rintro e w1 ⟨rfl, hb⟩; have hBn := below_s0 hBB (by omega) hb; clear hBB hb q0 q1 q2 q3 q4 q5; have hBB := hBn; clear hBn; obtain ⟨⟨q0, q1⟩, ⟨q2, q3, q4⟩, q5⟩ := two_boxes hBB)
      | (go_at_call 101; refine (risesS_c A1 c1 nd.seps pg wd _ ((hN.seps.below (((Below.refl _ _).alloc (Nat.le_refl _) _).alloc (by simp) _)).below (hBB.mono (by simp))) hN.hs (by omega) h1 HSs.out).mono ?_; rw [HRS.out]; rintro e w1 ⟨rfl, hb⟩; have hBn := below_s0 hBB (by omega) hb; clear hBB hb q0 q1 q2 q3 q4 q5; have hBB := hBn; clear hBn; obtain ⟨⟨q0, q1⟩, ⟨q2, q3, q4⟩, q5⟩ := two_boxes hBB))
      go_ret
      exact ⟨ret_eq (by rw [HF.out, HRS.out, HFS.out]; simp [HP.out, HK.out, HS.out]), below_aa (hBB.mono (by simp))⟩

theorem check_c (pg wd : Int) (A0 A1 A2 : Option Addr) (c0 c1 c2 : Nat) (nd : NodeD) (w : World) (hN : RdN w A0 c0 A1 c1 A2 c2 nd) :
    Calls Try.prog 74 #[vF pg wd, .agg #[.slice A0 nd.pairs.length c0, .slice A1 nd.seps.length c1, .slice A2 nd.kids.length c2]] w fun e w' => e = .returned (.int .i64 (checkE pg wd nd)) ∧ Below w.heap.size w w' := by
  cases hr : right pg wd with
  | false => exact check_wrong pg wd A0 A1 A2 c0 c1 c2 nd w hr
  | true =>
    obtain ⟨wn, rfl⟩ : ∃ n : Nat, wd = n := ⟨wd.toNat, by have := right_spec hr; omega⟩
    by_cases h : leafD nd
    · exact check_leaf pg wn A0 A1 A2 c0 c1 c2 nd w hr hN h
    · exact check_branch pg wn A0 A1 A2 c0 c1 c2 nd w hr hN h

end Go.Proofs.Ytajkoeodabmgeaa
end

section
namespace Go.Proofs.Ytajkoeodabmgeaa
open Go.RowKit
set_option maxHeartbeats 2000000
set_option maxRecDepth 100000
attribute [local go_sem] grow_cell grow_frozen grow_size

def tx (s : ByteArray) : Nat := cnt s.size + s.size
def psz (p : PairD) : Nat := tx p.k + tx p.v
def sizeD (wd : Nat) (nd : NodeD) : Nat :=
  if leafD nd then 1 + cnt nd.pairs.length + (nd.pairs.map psz).sum
  else 1 + cnt nd.kids.length + nd.kids.length * (4 + wd) + (nd.seps.map tx).sum

theorem text_b (s : ByteArray) (w : World) (hn : s.size ≤ 140737488355328) :
    Calls Try.prog 104 #[.string s] w fun e w' => e = .returned (.int .i64 (tx s)) ∧ Below w.heap.size w w' :=
  (text_c s w hn).mono fun _ _ ⟨he, hw⟩ => ⟨he, by subst hw; exact Below.refl _ _⟩

theorem tx_le (s : ByteArray) : tx s ≤ 2 * s.size + 1 := by have := cnt_le s.size; unfold tx; omega

theorem sum_take {α : Type} (f : α → Nat) (l : List α) (k : Nat) (hk : k < l.length) : ((l.take (k + 1)).map f).sum = ((l.take k).map f).sum + f l[k] := by
  rw [List.take_succ_eq_append_getElem hk, List.map_append, List.sum_append]; simp
theorem sum_le {α : Type} (f : α → Nat) (B : Nat) (l : List α) (h : ∀ x ∈ l, f x ≤ B) : (l.map f).sum ≤ l.length * B := by
  induction l with
  | nil => simp
  | cons x l ih =>
    have h1 := h x (by simp)
    have h2 := ih (fun y hy => h y (by simp [hy]))
    simp only [List.map_cons, List.sum_cons, List.length_cons, Nat.succ_mul]
    omega
theorem sum_take_le {α : Type} (f : α → Nat) (B : Nat) (l : List α) (k : Nat) (h : ∀ x ∈ l, f x ≤ B) (hk : k ≤ l.length) : ((l.take k).map f).sum ≤ k * B := by
  have := sum_le f B (l.take k) (fun x hx => h x (List.mem_of_mem_take hx))
  rwa [List.length_take, Nat.min_eq_left hk] at this

theorem size_leaf (pg : Int) (wd : Nat) (A0 A1 A2 : Option Addr) (c0 c1 c2 : Nat) (nd : NodeD) (w : World) (hr : right pg wd = true) (hN : RdN w A0 c0 A1 c1 A2 c2 nd) (hlf : leafD nd) (hsh : shaped pg wd nd) :
    Calls Try.prog 82 #[vF pg wd, .agg #[.slice A0 nd.pairs.length c0, .slice A1 nd.seps.length c1, .slice A2 nd.kids.length c2]] w fun e w' => e = .returned (.int .i64 (sizeD wd nd)) ∧ Below w.heap.size w w' := by
  obtain ⟨⟨h0, h1⟩, h2, h3⟩ := right_spec hr
  have hlf' : decide (nd.seps.length = 0 ∧ nd.kids.length = 0) = true := decide_eq_true hlf
  have HL' := Lib.hid hlf'
  have HL := Lib.hid hlf
  have hpl := hN.hp
  have hkb : ∀ p ∈ nd.pairs, p.k.size ≤ 512 ∧ p.v.size ≤ 1024 := by
    simp only [shaped, hlf, if_true] at hsh
    intro p hp
    obtain ⟨i, hi, e⟩ := List.getElem_of_mem hp
    have a := (hsh.1 i (by simpa using hi)).1.2
    have b : ¬ pg / 8 < p.v.size := fun h => hsh.2 ⟨p, hp, h⟩
    simp only [List.getElem_map, e] at a
    omega
  have hpb : ∀ p ∈ nd.pairs, psz p ≤ 3074 := fun p hp => by
    have := hkb p hp; have := tx_le p.k; have := tx_le p.v; unfold psz; omega
  have HKB := Lib.hid hkb
  have HPB := Lib.hid hpb
  have hcl := cnt_le nd.pairs.length
  clear hlf' hlf hsh hkb hpb hr
  go_enter Try.func82, Try.ntmps82
  go_wp2_with (first
    | (go_at_call 93; refine (isLeaf_c _ _ _ _ _ _ _ _ _ _ true HL'.out).mono ?_; rintro e w1 ⟨rfl, hb⟩; have hBB : Below (w.heap.size + 1 + 1) ((w.alloc (.cells #[.int .i64 pg, .int .i64 (wd : Int)] 24)).alloc (.cells #[.slice A0 nd.pairs.length c0, .slice A1 nd.seps.length c1, .slice A2 nd.kids.length c2] 29)) w1 := (hb.mono (by simp)); clear hb; obtain ⟨⟨q0, q1⟩, ⟨q2, q3, q4⟩, q5⟩ := two_boxes hBB)
    | (go_at_call 103; refine (count_c nd.pairs.length _ (by omega)).mono ?_; rintro e w1 ⟨rfl, rfl⟩))
  have hRp : Rd w1 2 A0 nd.pairs.length (pcells nd.pairs) := (hN.pairs.below (((Below.refl _ _).alloc (Nat.le_refl _) _).alloc (by simp) _)).below (hBB.mono (by simp))
  have hbw : Below w.heap.size w w1 := below_aa (hBB.mono (by simp))
  clear hBB q0 q1 q2 q3 q4 q5
  go_loopw [5, 21] (fun s i wr => ∃ k : Nat, k ≤ nd.pairs.length ∧ i = .int .i64 k ∧ s = .int .i64 ((1 + cnt nd.pairs.length + ((nd.pairs.take k).map psz).sum : Nat) : Int) ∧ Below w1.heap.size w1 wr) (fun _ i _ => nd.pairs.length - (intOf i).toNat)
  case atStart => exact ⟨0, Nat.zero_le _, rfl, by simp, Below.refl _ _⟩
  case round =>
    obtain ⟨k, hk, rfl, rfl, hB⟩ := hrel
    have hRk := hRp.below hB
    have hs := sum_take_le psz 3074 nd.pairs k HPB.out hk
    by_cases hlt : k < nd.pairs.length
    · obtain ⟨ab, ao, rfl, hk0, hk1⟩ := pairs_at hRk hlt
      have hb1 := HKB.out _ (List.getElem_mem hlt)
      obtain ⟨hb2, hb3⟩ := hb1
      have hst := Lib.hid (sum_take psz nd.pairs k hlt)
      have ht1 := tx_le nd.pairs[k].k
      have ht2 := tx_le nd.pairs[k].v
      generalize hS : ((nd.pairs.take k).map psz).sum = S at *
      have HS := Lib.hid hS
      clear hS hRk hRp
      go_wp2
      refine wp_region_grow (by kernel_rfl) (by kernel_rfl) ?_
      repeat (any_goals (first | go_big_quiet_step ((go_at_call 104; exact quiet_below (text_b _ _ (by omega)))) | quiet_step ((go_at_call 104; exact quiet_below (text_b _ _ (by omega))))))
      refine wpQuiet_nil ?_
      intro w2 hb
      go_wp2
      go_roundw
      case rel => exact ⟨k + 1, by omega, by go_num, by rw [hst.out]; congr 1; simp only [psz]; omega, below_s1 hB (Nat.le_trans (Nat.le_refl _) hB.size) hb⟩
      case measure => simp [intOf]; omega
    · go_wp2
      go_ret
      exact ⟨ret_eq (show Value.int IntKind.i64 ((1 + cnt nd.pairs.length + ((nd.pairs.take k).map psz).sum : Nat) : Int) = _ by
        rw [show k = nd.pairs.length by omega, List.take_length, sizeD, if_pos HL.out]), below_s0 hbw (by have := hbw.size; omega) hB⟩

theorem size_branch (pg : Int) (wd : Nat) (A0 A1 A2 : Option Addr) (c0 c1 c2 : Nat) (nd : NodeD) (w : World) (hr : right pg wd = true) (hN : RdN w A0 c0 A1 c1 A2 c2 nd) (hlf : ¬ leafD nd) (hsh : shaped pg wd nd) :
    Calls Try.prog 82 #[vF pg wd, .agg #[.slice A0 nd.pairs.length c0, .slice A1 nd.seps.length c1, .slice A2 nd.kids.length c2]] w fun e w' => e = .returned (.int .i64 (sizeD wd nd)) ∧ Below w.heap.size w w' := by
  obtain ⟨⟨h0, h1⟩, h2, h3⟩ := right_spec hr
  have hlf' : decide (nd.seps.length = 0 ∧ nd.kids.length = 0) = false := decide_eq_false hlf
  have HL' := Lib.hid hlf'
  have HL := Lib.hid hlf
  have hkl := hN.hk
  have hsl := hN.hs
  have hsb : ∀ s ∈ nd.seps, s.size ≤ 512 := by
    simp only [shaped, hlf, if_false] at hsh
    intro p hp
    obtain ⟨i, hi, e⟩ := List.getElem_of_mem hp
    have a := (hsh.2.2.2.2 i (by simpa using hi)).1.2
    rw [e] at a
    omega
  have htb : ∀ s ∈ nd.seps, tx s ≤ 1025 := fun p hp => by
    have := hsb p hp; have := tx_le p; omega
  have HSB := Lib.hid hsb
  have HTB := Lib.hid htb
  have hcl := cnt_le nd.kids.length
  have hmul : (nd.kids.length : Int) * (4 + (wd : Int)) ≤ 140737488355328 := by
    have a : (nd.kids.length : Int) * (4 + (wd : Int)) ≤ (nd.kids.length : Int) * 36 := Int.mul_le_mul_of_nonneg_left (by omega) (by omega)
    omega
  have hmul0 : 0 ≤ (nd.kids.length : Int) * (4 + (wd : Int)) := Int.mul_nonneg (by omega) (by omega)
  generalize hM : (nd.kids.length : Int) * (4 + (wd : Int)) = M at hmul hmul0
  have HM := Lib.hid hM
  have hwr : IntKind.i64.wrap ((nd.kids.length : Int) * (4 + (wd : Int))) = M := by rw [hM]; exact IntWalk.i64_in _ (by omega)
  have HWR := Lib.hid hwr
  clear hlf' hlf hsh hsb htb hr hM hwr
  go_enter Try.func82, Try.ntmps82
  go_wp2_with (first
    | (go_at_call 93; refine (isLeaf_c _ _ _ _ _ _ _ _ _ _ false HL'.out).mono ?_; rintro e w1 ⟨rfl, hb⟩; have hBB : Below (w.heap.size + 1 + 1) ((w.alloc (.cells #[.int .i64 pg, .int .i64 (wd : Int)] 24)).alloc (.cells #[.slice A0 nd.pairs.length c0, .slice A1 nd.seps.length c1, .slice A2 nd.kids.length c2] 29)) w1 := (hb.mono (by simp)); clear hb; obtain ⟨⟨q0, q1⟩, ⟨q2, q3, q4⟩, q5⟩ := two_boxes hBB))
  have q6 : w.heap.size < w1.heap.size := by omega
  refine wp_region_grow (by kernel_rfl) (by kernel_rfl) ?_
  repeat (any_goals (first | go_big_quiet_step ((go_at_call 103; exact quiet_below ((count_c nd.kids.length _ (by omega)).mono fun _ _ ⟨he, hw⟩ => ⟨he, by subst hw; exact Below.refl _ _⟩))) | quiet_step ((go_at_call 103; exact quiet_below ((count_c nd.kids.length _ (by omega)).mono fun _ _ ⟨he, hw⟩ => ⟨he, by subst hw; exact Below.refl _ _⟩)))))
  refine wpQuiet_nil ?_
  intro w2 hb
  have ew : wrap64 (1 + (cnt nd.kids.length : Int) + wrap64 ((nd.kids.length : Int) * (4 + (wd : Int)))) = 1 + (cnt nd.kids.length : Int) + M := by rw [HM.out]; unfold wrap64; omega
  simp only [ew]
  have hBn := below_s0 hBB (by omega) hb
  clear hBB hb ew q0 q1 q2 q3 q4 q5 q6 HWR
  obtain ⟨⟨q0, q1⟩, ⟨q2, q3, q4⟩, q5⟩ := two_boxes hBn
  go_wp2
  have hRs : Rd w2 1 A1 nd.seps.length (scells nd.seps) := (hN.seps.below (((Below.refl _ _).alloc (Nat.le_refl _) _).alloc (by simp) _)).below (hBn.mono (by simp))
  have hbw : Below w.heap.size w w2 := below_aa (hBn.mono (by simp))
  clear hBn q0 q1 q2 q3 q4 q5
  go_loopw [8, 52] (fun s i wr => ∃ k : Nat, k ≤ nd.seps.length ∧ i = .int .i64 k ∧ s = .int .i64 (1 + (cnt nd.kids.length : Int) + M + ((nd.seps.take k).map tx).sum) ∧ Below w2.heap.size w2 wr) (fun _ i _ => nd.seps.length - (intOf i).toNat)
  case atStart => exact ⟨0, Nat.zero_le _, rfl, by simp, Below.refl _ _⟩
  case round =>
    obtain ⟨k, hk, rfl, rfl, hB⟩ := hrel
    have hRk := hRs.below hB
    have hs := sum_take_le tx 1025 nd.seps k HTB.out hk
    by_cases hlt : k < nd.seps.length
    · obtain ⟨ab, ao, rfl, hk0⟩ := seps_at hRk hlt
      have hb1 := HSB.out _ (List.getElem_mem hlt)
      have hst := Lib.hid (sum_take tx nd.seps k hlt)
      have ht1 := tx_le nd.seps[k]
      generalize hS : ((nd.seps.take k).map tx).sum = S at *
      have HS := Lib.hid hS
      clear hS hRk hRs
      go_wp2_with (go_at_call 104; refine (text_b _ _ (by omega)).mono ?_; rintro e w3 ⟨rfl, hb3⟩)
      go_roundw
      case rel => exact ⟨k + 1, by omega, by go_num, by rw [hst.out]; congr 1; omega, below_s0 hB hB.size hb3⟩
      case measure => simp [intOf]; omega
    · go_wp2
      go_ret
      exact ⟨ret_eq (show Value.int IntKind.i64 (1 + (cnt nd.kids.length : Int) + M + ((nd.seps.take k).map tx).sum) = _ by
        rw [show k = nd.seps.length by omega, List.take_length, sizeD, if_neg HL.out, ← HM.out]; congr 1), below_s0 hbw (by have := hbw.size; omega) hB⟩

theorem size_c (pg : Int) (wd : Nat) (A0 A1 A2 : Option Addr) (c0 c1 c2 : Nat) (nd : NodeD) (w : World) (hr : right pg wd = true) (hN : RdN w A0 c0 A1 c1 A2 c2 nd) (hsh : shaped pg wd nd) :
    Calls Try.prog 82 #[vF pg wd, .agg #[.slice A0 nd.pairs.length c0, .slice A1 nd.seps.length c1, .slice A2 nd.kids.length c2]] w fun e w' => e = .returned (.int .i64 (sizeD wd nd)) ∧ Below w.heap.size w w' := by
  by_cases h : leafD nd
  · exact size_leaf pg wd A0 A1 A2 c0 c1 c2 nd w hr hN h hsh
  · exact size_branch pg wd A0 A1 A2 c0 c1 c2 nd w hr hN h hsh

end Go.Proofs.Ytajkoeodabmgeaa
end

section
namespace Go.Proofs.Ytajkoeodabmgeaa
open Go.RowKit
set_option maxHeartbeats 2000000
set_option maxRecDepth 100000
attribute [local go_sem] grow_cell grow_frozen grow_size

theorem RdN.below {w w' : World} {A0 A1 A2 : Option Addr} {c0 c1 c2 : Nat} {nd : NodeD} (h : RdN w A0 c0 A1 c1 A2 c2 nd) (hb : Below w.heap.size w w') : RdN w' A0 c0 A1 c1 A2 c2 nd :=
  { h with pairs := h.pairs.below hb, seps := h.seps.below hb, kids := h.kids.below hb }

/-- A node as a value. -/
abbrev vN (A0 : Option Addr) (c0 : Nat) (A1 : Option Addr) (c1 : Nat) (A2 : Option Addr) (c2 : Nat) (nd : NodeD) : Value :=
  .agg #[.slice A0 nd.pairs.length c0, .slice A1 nd.seps.length c1, .slice A2 nd.kids.length c2]

theorem below_start {w : World} {a b c d e : Value} : Below (w.heap.size + 1 + 1) ((w.alloc (.cells #[a, b] 24)).alloc (.cells #[c, d, e] 29)) ((w.alloc (.cells #[a, b] 24)).alloc (.cells #[c, d, e] 29)) := Below.refl _ _
theorem below_first {w w1 : World} {a b c d e : Value} (hb : Below ((w.alloc (.cells #[a, b] 24)).alloc (.cells #[c, d, e] 29)).heap.size ((w.alloc (.cells #[a, b] 24)).alloc (.cells #[c, d, e] 29)) w1) :
    Below (w.heap.size + 1 + 1) ((w.alloc (.cells #[a, b] 24)).alloc (.cells #[c, d, e] 29)) w1 := hb.mono (by simp)
theorem RdN.boxes {w w1 : World} {A0 A1 A2 : Option Addr} {c0 c1 c2 : Nat} {nd : NodeD} {a b c d e : Value} (h : RdN w A0 c0 A1 c1 A2 c2 nd)
    (hb : Below (w.heap.size + 1 + 1) ((w.alloc (.cells #[a, b] 24)).alloc (.cells #[c, d, e] 29)) w1) : RdN w1 A0 c0 A1 c1 A2 c2 nd :=
  (h.below (((Below.refl _ _).alloc (Nat.le_refl _) _).alloc (by simp) _)).below (hb.mono (by simp))

/-- The size, or 0. -/
def sizeE (pg wd : Int) (nd : NodeD) : Int := if checkE pg wd nd = 0 then sizeD wd.toNat nd else 0

theorem checkE_zero {pg wd : Int} {nd : NodeD} (h : checkE pg wd nd = 0) : right pg wd = true ∧ shaped pg wd.toNat nd := by
  unfold checkE at h
  split at h
  · rename_i h1
    split at h
    · exact ⟨h1, by assumption⟩
    · omega
  · omega

theorem Size_c (pg wd : Int) (A0 A1 A2 : Option Addr) (c0 c1 c2 : Nat) (nd : NodeD) (w : World) (hN : RdN w A0 c0 A1 c1 A2 c2 nd) :
    Calls Try.prog 40 #[vF pg wd, vN A0 c0 A1 c1 A2 c2 nd] w fun e w' => e = .returned (.int .i64 (sizeE pg wd nd)) ∧ Below w.heap.size w w' := by
  have HN := Lib.hid hN
  by_cases hc : checkE pg wd nd = 0
  · obtain ⟨hr, hs⟩ := checkE_zero hc
    obtain ⟨wn, rfl⟩ : ∃ n : Nat, wd = n := ⟨wd.toNat, by have := right_spec hr; omega⟩
    have hfin : sizeE pg wn nd = sizeD wn nd := by rw [sizeE, if_pos hc]; rfl
    have HC := Lib.hid hc
    have HF := Lib.hid hfin
    clear hc hfin hN
    go_enter Try.func40, Try.ntmps40
    go_wp2_with (first
      | (go_at_call 74; refine (check_c pg wn A0 A1 A2 c0 c1 c2 nd _ (HN.out.boxes below_start)).mono ?_; rw [HC.out]; rintro e w1 ⟨rfl, hb⟩; have hBB := below_first hb; clear hb; obtain ⟨⟨q0, q1⟩, ⟨q2, q3, q4⟩, q5⟩ := two_boxes hBB)
      | (go_at_call 82; refine (size_c pg wn A0 A1 A2 c0 c1 c2 nd _ hr (HN.out.boxes hBB) hs).mono ?_; rintro e w2 ⟨rfl, hb⟩))
    go_ret
    exact ⟨ret_eq (by rw [HF.out]; rfl), below_s0 (below_aa (hBB.mono (by simp))) (by omega) hb⟩
  · have hne : (checkE pg wd nd != 0) = true := by rw [bne_iff_ne]; exact hc
    have HC := Lib.hid hc
    clear hc hN
    go_enter Try.func40, Try.ntmps40
    go_wp2_with (first
      | (go_at_call 74; refine (check_c pg wd A0 A1 A2 c0 c1 c2 nd _ (HN.out.boxes below_start)).mono ?_; rintro e w1 ⟨rfl, hb⟩; have hBB := below_first hb; clear hb; obtain ⟨⟨q0, q1⟩, ⟨q2, q3, q4⟩, q5⟩ := two_boxes hBB))
    go_ret
    exact ⟨ret_eq (show Value.int IntKind.i64 0 = _ by rw [sizeE, if_neg HC.out]), below_aa (hBB.mono (by simp))⟩

theorem check_v (pg wd : Int) (A0 A1 A2 : Option Addr) (c0 c1 c2 : Nat) (nd : NodeD) (w : World) (hN : RdN w A0 c0 A1 c1 A2 c2 nd) (v : Int) (hv : checkE pg wd nd = v) :
    Calls Try.prog 74 #[vF pg wd, vN A0 c0 A1 c1 A2 c2 nd] w fun e w' => e = .returned (.int .i64 v) ∧ Below w.heap.size w w' := by
  subst hv; exact check_c pg wd A0 A1 A2 c0 c1 c2 nd w hN
theorem frame_v (pg wd : Int) (w : World) (b : Bool) (hb : right pg wd = b) :
    Calls Try.prog 61 #[vF pg wd] w fun e w' => e = .returned (.bool b) ∧ Below w.heap.size w w' := by
  subst hb; exact frame_c pg wd w

def leafB (pg wd : Int) (nd : NodeD) : Bool := decide (nd.kids.length = 0 ∧ checkE pg wd nd = 0)
def branchB (pg wd : Int) (nd : NodeD) : Bool := decide (0 < nd.kids.length ∧ checkE pg wd nd = 0)

theorem leaf_c (pg wd : Int) (A0 A1 A2 : Option Addr) (c0 c1 c2 : Nat) (nd : NodeD) (w : World) (hN : RdN w A0 c0 A1 c1 A2 c2 nd) :
    Calls Try.prog 62 #[vF pg wd, vN A0 c0 A1 c1 A2 c2 nd] w fun e w' => e = .returned (.bool (leafB pg wd nd)) ∧ Below w.heap.size w w' := by
  have HN := Lib.hid hN
  clear hN
  by_cases hk : nd.kids.length = 0
  · have hfin : leafB pg wd nd = (checkE pg wd nd == 0) := by simp [leafB, hk, Bool.beq_eq_decide_eq]
    have HF := Lib.hid hfin
    have hk1 : ((nd.kids.length : Int) == 0) = true := by simp [hk]
    have HK := Lib.hid hk
    clear hk hfin
    go_enter Try.func62, Try.ntmps62
    go_wp2_with (first
      | (go_at_call 74; refine (check_c pg wd A0 A1 A2 c0 c1 c2 nd _ (HN.out.boxes below_start)).mono ?_; rintro e w1 ⟨rfl, hb⟩; have hBB := below_first hb; clear hb; obtain ⟨⟨q0, q1⟩, ⟨q2, q3, q4⟩, q5⟩ := two_boxes hBB))
    go_ret
    exact ⟨ret_eq (by rw [HF.out]; rfl), below_aa (hBB.mono (by simp))⟩
  · have hfin : leafB pg wd nd = false := by simp [leafB, hk]
    have HF := Lib.hid hfin
    have hk1 : ((nd.kids.length : Int) == 0) = false := by simp [hk]
    have HK := Lib.hid hk
    clear hk hfin
    go_enter Try.func62, Try.ntmps62
    go_wp2
    go_ret
    exact ⟨ret_eq (by rw [HF.out]; rfl), below_aa (Below.refl _ _)⟩

theorem branch_c (pg wd : Int) (A0 A1 A2 : Option Addr) (c0 c1 c2 : Nat) (nd : NodeD) (w : World) (hN : RdN w A0 c0 A1 c1 A2 c2 nd) :
    Calls Try.prog 84 #[vF pg wd, vN A0 c0 A1 c1 A2 c2 nd] w fun e w' => e = .returned (.bool (branchB pg wd nd)) ∧ Below w.heap.size w w' := by
  have HN := Lib.hid hN
  clear hN
  by_cases hk : 0 < nd.kids.length
  · have hfin : branchB pg wd nd = (checkE pg wd nd == 0) := by simp [branchB, hk, Bool.beq_eq_decide_eq]
    have HF := Lib.hid hfin
    clear hfin
    go_enter Try.func84, Try.ntmps84
    go_wp2_with (first
      | (go_at_call 74; refine (check_c pg wd A0 A1 A2 c0 c1 c2 nd _ (HN.out.boxes below_start)).mono ?_; rintro e w1 ⟨rfl, hb⟩; have hBB := below_first hb; clear hb; obtain ⟨⟨q0, q1⟩, ⟨q2, q3, q4⟩, q5⟩ := two_boxes hBB))
    go_ret
    exact ⟨ret_eq (by rw [HF.out]; rfl), below_aa (hBB.mono (by simp))⟩
  · have hfin : branchB pg wd nd = false := by simp [branchB, hk]
    have HF := Lib.hid hfin
    clear hfin
    go_enter Try.func84, Try.ntmps84
    go_wp2
    go_ret
    exact ⟨ret_eq (by rw [HF.out]; rfl), below_aa (Below.refl _ _)⟩

def fullB (pg wd : Int) (nd : NodeD) : Bool := decide (checkE pg wd nd = 0 ∧ pg - 32 < sizeE pg wd nd)
def thinB (pg wd : Int) (nd : NodeD) : Bool := decide (checkE pg wd nd = 0 ∧ sizeE pg wd nd < (pg - 30) / 3)

end Go.Proofs.Ytajkoeodabmgeaa
end

section
namespace Go.Proofs.Ytajkoeodabmgeaa
open Go.RowKit
set_option maxHeartbeats 2000000
set_option maxRecDepth 100000
attribute [local go_sem] grow_cell grow_frozen grow_size

theorem RdN.grown2 {w : World} {A0 A1 A2 : Option Addr} {c0 c1 c2 : Nat} {nd : NodeD} {a b c d e : Value} (h : RdN w A0 c0 A1 c1 A2 c2 nd) (x : Ext) :
    RdN (grow ((w.alloc (.cells #[a, b] 24)).alloc (.cells #[c, d, e] 29)) x) A0 c0 A1 c1 A2 c2 nd :=
  (h.below (((Below.refl _ _).alloc (Nat.le_refl _) _).alloc (by simp) _)).below (below_grow _ x)

theorem full_c (pg wd : Int) (A0 A1 A2 : Option Addr) (c0 c1 c2 : Nat) (nd : NodeD) (w : World) (hN : RdN w A0 c0 A1 c1 A2 c2 nd) :
    Calls Try.prog 35 #[vF pg wd, vN A0 c0 A1 c1 A2 c2 nd] w fun e w' => e = .returned (.bool (fullB pg wd nd)) ∧ Below w.heap.size w w' := by
  have HN := Lib.hid hN
  clear hN
  cases hr : right pg wd with
  | false =>
    have hfin : fullB pg wd nd = false := by simp [fullB, checkE, hr]
    have HF := Lib.hid hfin
    have HR := Lib.hid hr
    clear hfin hr
    go_enter Try.func35, Try.ntmps35
    go_wp2
    refine wp_region_grow (by kernel_rfl) (by kernel_rfl) ?_
    repeat (any_goals (first | go_big_quiet_step ((first | (go_at_call 61; exact quiet_below (frame_v pg wd _ _ HR.out)))) | quiet_step ((first | (go_at_call 61; exact quiet_below (frame_v pg wd _ _ HR.out))))))
    refine wpQuiet_nil ?_
    intro w1 hb
    go_wp2
    go_ret
    exact ⟨ret_eq (by rw [HF.out]; rfl), below_aa hb⟩
  | true =>
    have hrs := right_spec hr
    have HR := Lib.hid hr
    clear hr
    by_cases hc : checkE pg wd nd = 0
    · have hfin : fullB pg wd nd = decide (pg - 32 < sizeE pg wd nd) := by simp [fullB, hc]
      have HF := Lib.hid hfin
      have HC := Lib.hid hc
      clear hfin hc
      go_enter Try.func35, Try.ntmps35
      go_wp2
      refine wp_region_grow (by kernel_rfl) (by kernel_rfl) ?_
      repeat (any_goals (first | go_big_quiet_step (((first | (go_at_call 61; exact quiet_below (frame_v pg wd _ _ HR.out)) | (go_at_call 74; exact quiet_below (check_v pg wd A0 A1 A2 c0 c1 c2 nd _ (HN.out.grown2 _) 0 HC.out)) | (go_at_call 40; exact quiet_below (Size_c pg wd A0 A1 A2 c0 c1 c2 nd _ (HN.out.grown2 _))) | (go_at_call 80; exact quiet_below (room_c pg wd _ (by omega) (by omega)))))) | quiet_step (((first | (go_at_call 61; exact quiet_below (frame_v pg wd _ _ HR.out)) | (go_at_call 74; exact quiet_below (check_v pg wd A0 A1 A2 c0 c1 c2 nd _ (HN.out.grown2 _) 0 HC.out)) | (go_at_call 40; exact quiet_below (Size_c pg wd A0 A1 A2 c0 c1 c2 nd _ (HN.out.grown2 _))) | (go_at_call 80; exact quiet_below (room_c pg wd _ (by omega) (by omega))))))))
      refine wpQuiet_nil ?_
      intro w1 hb
      go_wp2
      go_ret
      exact ⟨ret_eq (by rw [HF.out]; rfl), below_aa hb⟩
    · have hfin : fullB pg wd nd = false := by simp [fullB, hc]
      have hne : (checkE pg wd nd == 0) = false := by simp [hc]
      have HF := Lib.hid hfin
      clear hfin hc
      go_enter Try.func35, Try.ntmps35
      go_wp2
      refine wp_region_grow (by kernel_rfl) (by kernel_rfl) ?_
      repeat (any_goals (first | go_big_quiet_step (((first | (go_at_call 61; exact quiet_below (frame_v pg wd _ _ HR.out)) | (go_at_call 74; exact quiet_below (check_c pg wd A0 A1 A2 c0 c1 c2 nd _ (HN.out.grown2 _)))))) | quiet_step (((first | (go_at_call 61; exact quiet_below (frame_v pg wd _ _ HR.out)) | (go_at_call 74; exact quiet_below (check_c pg wd A0 A1 A2 c0 c1 c2 nd _ (HN.out.grown2 _))))))))
      refine wpQuiet_nil ?_
      intro w1 hb
      go_wp2
      go_ret
      exact ⟨ret_eq (by rw [HF.out]; rfl), below_aa hb⟩

theorem thin_c (pg wd : Int) (A0 A1 A2 : Option Addr) (c0 c1 c2 : Nat) (nd : NodeD) (w : World) (hN : RdN w A0 c0 A1 c1 A2 c2 nd) :
    Calls Try.prog 37 #[vF pg wd, vN A0 c0 A1 c1 A2 c2 nd] w fun e w' => e = .returned (.bool (thinB pg wd nd)) ∧ Below w.heap.size w w' := by
  have HN := Lib.hid hN
  clear hN
  cases hr : right pg wd with
  | false =>
    have hfin : thinB pg wd nd = false := by simp [thinB, checkE, hr]
    have HF := Lib.hid hfin
    have HR := Lib.hid hr
    clear hfin hr
    go_enter Try.func37, Try.ntmps37
    go_wp2
    refine wp_region_grow (by kernel_rfl) (by kernel_rfl) ?_
    repeat (any_goals (first | go_big_quiet_step ((first | (go_at_call 61; exact quiet_below (frame_v pg wd _ _ HR.out)))) | quiet_step ((first | (go_at_call 61; exact quiet_below (frame_v pg wd _ _ HR.out))))))
    refine wpQuiet_nil ?_
    intro w1 hb
    go_wp2
    go_ret
    exact ⟨ret_eq (by rw [HF.out]; rfl), below_aa hb⟩
  | true =>
    have hrs := right_spec hr
    have HR := Lib.hid hr
    clear hr
    by_cases hc : checkE pg wd nd = 0
    · have hfin : thinB pg wd nd = decide (sizeE pg wd nd < (pg - 30) / 3) := by simp [thinB, hc]
      have HF := Lib.hid hfin
      have HC := Lib.hid hc
      clear hfin hc
      go_enter Try.func37, Try.ntmps37
      go_wp2
      refine wp_region_grow (by kernel_rfl) (by kernel_rfl) ?_
      repeat (any_goals (first | go_big_quiet_step (((first | (go_at_call 61; exact quiet_below (frame_v pg wd _ _ HR.out)) | (go_at_call 74; exact quiet_below (check_v pg wd A0 A1 A2 c0 c1 c2 nd _ (HN.out.grown2 _) 0 HC.out)) | (go_at_call 40; exact quiet_below (Size_c pg wd A0 A1 A2 c0 c1 c2 nd _ (HN.out.grown2 _))) | (go_at_call 81; exact quiet_below (least_c pg wd _ (by omega) (by omega)))))) | quiet_step (((first | (go_at_call 61; exact quiet_below (frame_v pg wd _ _ HR.out)) | (go_at_call 74; exact quiet_below (check_v pg wd A0 A1 A2 c0 c1 c2 nd _ (HN.out.grown2 _) 0 HC.out)) | (go_at_call 40; exact quiet_below (Size_c pg wd A0 A1 A2 c0 c1 c2 nd _ (HN.out.grown2 _))) | (go_at_call 81; exact quiet_below (least_c pg wd _ (by omega) (by omega))))))))
      refine wpQuiet_nil ?_
      intro w1 hb
      go_wp2
      go_ret
      exact ⟨ret_eq (by rw [HF.out]; rfl), below_aa hb⟩
    · have hfin : thinB pg wd nd = false := by simp [thinB, hc]
      have hne : (checkE pg wd nd == 0) = false := by simp [hc]
      have HF := Lib.hid hfin
      clear hfin hc
      go_enter Try.func37, Try.ntmps37
      go_wp2
      refine wp_region_grow (by kernel_rfl) (by kernel_rfl) ?_
      repeat (any_goals (first | go_big_quiet_step (((first | (go_at_call 61; exact quiet_below (frame_v pg wd _ _ HR.out)) | (go_at_call 74; exact quiet_below (check_c pg wd A0 A1 A2 c0 c1 c2 nd _ (HN.out.grown2 _)))))) | quiet_step (((first | (go_at_call 61; exact quiet_below (frame_v pg wd _ _ HR.out)) | (go_at_call 74; exact quiet_below (check_c pg wd A0 A1 A2 c0 c1 c2 nd _ (HN.out.grown2 _))))))))
      refine wpQuiet_nil ?_
      intro w1 hb
      go_wp2
      go_ret
      exact ⟨ret_eq (by rw [HF.out]; rfl), below_aa hb⟩

end Go.Proofs.Ytajkoeodabmgeaa
end

section
namespace Go.Proofs.Ytajkoeodabmgeaa
open Go

/-! The order of texts, byte by byte. -/
abbrev lt (a b : List UInt8) : Bool := Op.bytesLess a b

theorem lt_irrefl : ∀ a : List UInt8, lt a a = false
  | [] => rfl
  | x :: a => by simp [lt, Op.bytesLess, lt_irrefl a]
theorem lt_nil (a : List UInt8) : lt a [] = false := by cases a <;> rfl
theorem nil_lt (b : List UInt8) : lt [] b = !b.isEmpty := by cases b <;> rfl
theorem lt_cons (x y : UInt8) (a b : List UInt8) : lt (x :: a) (y :: b) = true ↔ x < y ∨ (x = y ∧ lt a b = true) := by
  simp [lt, Op.bytesLess]
theorem u8_lt_iff (x y : UInt8) : x < y ↔ x.toNat < y.toNat := UInt8.lt_iff_toNat_lt
theorem u8_eq_iff (x y : UInt8) : x = y ↔ x.toNat = y.toNat := UInt8.toNat_inj.symm

theorem lt_trans : ∀ {a b c : List UInt8}, lt a b = true → lt b c = true → lt a c = true
  | a, [], c, h, _ => by rw [lt_nil] at h; cases h
  | a, y :: b, [], _, h => by rw [lt_nil] at h; cases h
  | [], y :: b, z :: c, _, _ => rfl
  | x :: a, y :: b, z :: c, h1, h2 => by
    rw [lt_cons] at h1 h2 ⊢
    rcases h1 with h1 | ⟨rfl, h1⟩ <;> rcases h2 with h2 | ⟨rfl, h2⟩
    · rw [u8_lt_iff] at *; left; omega
    · exact .inl h1
    · exact .inl h2
    · exact .inr ⟨rfl, lt_trans h1 h2⟩

theorem lt_asymm {a b : List UInt8} (h : lt a b = true) : lt b a = false := by
  cases h2 : lt b a with
  | false => rfl
  | true => have := lt_trans h h2; rw [lt_irrefl] at this; cases this

theorem lt_total : ∀ a b : List UInt8, lt a b = true ∨ a = b ∨ lt b a = true
  | [], [] => .inr (.inl rfl)
  | [], _ :: _ => .inl rfl
  | _ :: _, [] => .inr (.inr rfl)
  | x :: a, y :: b => by
    rw [lt_cons, lt_cons]
    rcases Nat.lt_trichotomy x.toNat y.toNat with h | h | h
    · exact .inl (.inl ((u8_lt_iff _ _).2 h))
    · obtain rfl := (u8_eq_iff x y).2 h
      rcases lt_total a b with h | h | h
      · exact .inl (.inr ⟨rfl, h⟩)
      · exact .inr (.inl (by rw [h]))
      · exact .inr (.inr (.inr ⟨rfl, h⟩))
    · exact .inr (.inr (.inl ((u8_lt_iff _ _).2 h)))

theorem not_lt {a b : List UInt8} (h : lt a b = false) : a = b ∨ lt b a = true := by
  rcases lt_total a b with h1 | h1 | h1
  · rw [h] at h1; cases h1
  · exact .inl h1
  · exact .inr h1

/-- `a` not above `b`, `b` below `c`. -/
theorem le_lt {a b c : List UInt8} (h1 : lt b a = false) (h2 : lt b c = true) : lt a c = true := by
  rcases not_lt h1 with rfl | h
  · exact h2
  · exact lt_trans h h2
theorem lt_le {a b c : List UInt8} (h1 : lt a b = true) (h2 : lt c b = false) : lt a c = true := by
  rcases not_lt h2 with rfl | h
  · exact h1
  · exact lt_trans h1 h
theorem le_trans' {a b c : List UInt8} (h1 : lt b a = false) (h2 : lt c b = false) : lt c a = false := by
  cases h : lt c a with
  | false => rfl
  | true => have := lt_le h h1; rw [h2] at this; cases this

/-- How many bytes two texts have alike from the beginning. -/
def lcp : List UInt8 → List UInt8 → Nat
  | x :: a, y :: b => if x = y then lcp a b + 1 else 0
  | _, _ => 0

theorem lcp_le_left : ∀ a b : List UInt8, lcp a b ≤ a.length
  | [], _ => by simp [lcp]
  | _ :: _, [] => by simp [lcp]
  | x :: a, y :: b => by
    unfold lcp
    split
    · have := lcp_le_left a b; simp; omega
    · simp
theorem lcp_lt_right : ∀ {a b : List UInt8}, lt a b = true → lcp a b < b.length
  | a, [], h => by rw [lt_nil] at h; cases h
  | [], _ :: _, _ => by simp [lcp]
  | x :: a, y :: b, h => by
    rw [lt_cons] at h
    unfold lcp
    split
    · rename_i e
      rcases h with h | ⟨_, h⟩
      · subst e; rw [u8_lt_iff] at h; omega
      · have := lcp_lt_right h; simp; omega
    · simp
theorem lcp_step : ∀ (a b : List UInt8) (k : Nat) (ha : k < a.length) (hb : k < b.length), k ≤ lcp a b → (a[k] = b[k] → k + 1 ≤ lcp a b) ∧ (a[k] ≠ b[k] → k = lcp a b)
  | [], _, _, ha, _, _ => by simp at ha
  | _ :: _, [], _, _, hb, _ => by simp at hb
  | x :: a, y :: b, 0, _, _, _ => by
    simp only [List.getElem_cons_zero, lcp]
    constructor
    · intro e; rw [if_pos e]; omega
    · intro e; rw [if_neg e]
  | x :: a, y :: b, k + 1, ha, hb, h => by
    simp only [lcp] at h ⊢
    simp only [List.getElem_cons_succ]
    split at h
    · rename_i e
      rw [if_pos e]
      have := lcp_step a b k (by simpa using ha) (by simpa using hb) (by omega)
      exact ⟨fun h => by have := this.1 h; omega, fun h => by have := this.2 h; omega⟩
    · omega

/-- A beginning of the greater text that is no longer than what both have alike is not above the smaller one; one byte more is. -/
theorem take_lcp : ∀ (a b : List UInt8) (i : Nat), i ≤ lcp a b → lt a (b.take i) = false
  | a, b, 0, _ => by simp [lt_nil]
  | [], b, i + 1, h => by simp [lcp] at h
  | x :: a, [], i + 1, h => by simp [lcp] at h
  | x :: a, y :: b, i + 1, h => by
    unfold lcp at h
    split at h
    · rename_i e
      subst e
      rw [List.take_succ_cons]
      have := take_lcp a b i (by omega)
      cases hc : lt (x :: a) (x :: b.take i) with
      | false => rfl
      | true =>
        rw [lt_cons] at hc
        rcases hc with hc | ⟨_, hc⟩
        · rw [u8_lt_iff] at hc; omega
        · rw [this] at hc; cases hc
    · omega
theorem take_lcp_succ : ∀ {a b : List UInt8}, lt a b = true → lt a (b.take (lcp a b + 1)) = true
  | a, [], h => by rw [lt_nil] at h; cases h
  | [], y :: b, _ => by simp [lcp, lt, Op.bytesLess]
  | x :: a, y :: b, h => by
    rw [List.take_succ_cons, lt_cons]
    rw [lt_cons] at h
    rcases h with h | ⟨rfl, h⟩
    · exact .inl h
    · refine .inr ⟨rfl, ?_⟩
      simp only [lcp, if_true]
      exact take_lcp_succ h
/-- A beginning is not above the whole. -/
theorem take_le : ∀ (b : List UInt8) (i : Nat), lt b (b.take i) = false
  | b, 0 => by simp [lt_nil]
  | [], i + 1 => by simp [lt_nil]
  | y :: b, i + 1 => by
    rw [List.take_succ_cons]
    cases hc : lt (y :: b) (y :: b.take i) with
    | false => rfl
    | true =>
      rw [lt_cons] at hc
      rcases hc with hc | ⟨_, hc⟩
      · rw [u8_lt_iff] at hc; omega
      · rw [take_le b i] at hc; cases hc
theorem take_not_lt {a b : List UInt8} (h : lt a b = false) (i : Nat) : lt a (b.take i) = false :=
  le_trans' (take_le b i) h

/-- The separator between two texts. -/
def sepL (a b : List UInt8) : List UInt8 := b.take (lcp a b + 1)

end Go.Proofs.Ytajkoeodabmgeaa
end
