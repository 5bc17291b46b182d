import Derived.Test.YtajkoeodabmgeaaB8
namespace Go.Proofs.Ytajkoeodabmgeaa
open Go.RowKit
set_option maxHeartbeats 2000000
set_option maxRecDepth 100000
attribute [local go_sem] grow_cell grow_frozen grow_size

theorem RdN.below {w w' : World} {A0 A1 A2 : Option Addr} {c0 c1 c2 : Nat} {nd : NodeD} (h : RdN w A0 c0 A1 c1 A2 c2 nd) (hb : Below w.heap.size w w') : RdN w' A0 c0 A1 c1 A2 c2 nd :=
  { h with pairs := h.pairs.below hb, seps := h.seps.below hb, kids := h.kids.below hb }

/-- A node as a value. -/
abbrev vN (A0 : Option Addr) (c0 : Nat) (A1 : Option Addr) (c1 : Nat) (A2 : Option Addr) (c2 : Nat) (nd : NodeD) : Value :=
  .agg #[.slice A0 nd.pairs.length c0, .slice A1 nd.seps.length c1, .slice A2 nd.kids.length c2]

theorem below_start {w : World} {a b c d e : Value} : Below (w.heap.size + 1 + 1) ((w.alloc (.cells #[a, b] 24)).alloc (.cells #[c, d, e] 29)) ((w.alloc (.cells #[a, b] 24)).alloc (.cells #[c, d, e] 29)) := Below.refl _ _
theorem below_first {w w1 : World} {a b c d e : Value} (hb : Below ((w.alloc (.cells #[a, b] 24)).alloc (.cells #[c, d, e] 29)).heap.size ((w.alloc (.cells #[a, b] 24)).alloc (.cells #[c, d, e] 29)) w1) :
    Below (w.heap.size + 1 + 1) ((w.alloc (.cells #[a, b] 24)).alloc (.cells #[c, d, e] 29)) w1 := hb.mono (by simp)
theorem RdN.boxes {w w1 : World} {A0 A1 A2 : Option Addr} {c0 c1 c2 : Nat} {nd : NodeD} {a b c d e : Value} (h : RdN w A0 c0 A1 c1 A2 c2 nd)
    (hb : Below (w.heap.size + 1 + 1) ((w.alloc (.cells #[a, b] 24)).alloc (.cells #[c, d, e] 29)) w1) : RdN w1 A0 c0 A1 c1 A2 c2 nd :=
  (h.below (((Below.refl _ _).alloc (Nat.le_refl _) _).alloc (by simp) _)).below (hb.mono (by simp))

/-- The size, or 0. -/
def sizeE (pg wd : Int) (nd : NodeD) : Int := if checkE pg wd nd = 0 then sizeD wd.toNat nd else 0

theorem checkE_zero {pg wd : Int} {nd : NodeD} (h : checkE pg wd nd = 0) : right pg wd = true ∧ shaped pg wd.toNat nd := by
  unfold checkE at h
  split at h
  · rename_i h1
    split at h
    · exact ⟨h1, by assumption⟩
    · omega
  · omega

theorem Size_c (pg wd : Int) (A0 A1 A2 : Option Addr) (c0 c1 c2 : Nat) (nd : NodeD) (w : World) (hN : RdN w A0 c0 A1 c1 A2 c2 nd) :
    Calls Try.prog 40 #[vF pg wd, vN A0 c0 A1 c1 A2 c2 nd] w fun e w' => e = .returned (.int .i64 (sizeE pg wd nd)) ∧ Below w.heap.size w w' := by
  have HN := Lib.hid hN
  by_cases hc : checkE pg wd nd = 0
  · obtain ⟨hr, hs⟩ := checkE_zero hc
    obtain ⟨wn, rfl⟩ : ∃ n : Nat, wd = n := ⟨wd.toNat, by have := right_spec hr; omega⟩
    have hfin : sizeE pg wn nd = sizeD wn nd := by rw [sizeE, if_pos hc]; rfl
    have HC := Lib.hid hc
    have HF := Lib.hid hfin
    clear hc hfin hN
    go_enter Try.func40, Try.ntmps40
    go_wp2_with (first
      | (go_at_call 74; refine (check_c pg wn A0 A1 A2 c0 c1 c2 nd _ (HN.out.boxes below_start)).mono ?_; rw [HC.out]; rintro e w1 ⟨rfl, hb⟩; have hBB := below_first hb; clear hb; obtain ⟨⟨q0, q1⟩, ⟨q2, q3, q4⟩, q5⟩ := two_boxes hBB)
      | (go_at_call 82; refine (size_c pg wn A0 A1 A2 c0 c1 c2 nd _ hr (HN.out.boxes hBB) hs).mono ?_; rintro e w2 ⟨rfl, hb⟩))
    go_ret
    exact ⟨ret_eq (by rw [HF.out]; rfl), below_s0 (below_aa (hBB.mono (by simp))) (by omega) hb⟩
  · have hne : (checkE pg wd nd != 0) = true := by rw [bne_iff_ne]; exact hc
    have HC := Lib.hid hc
    clear hc hN
    go_enter Try.func40, Try.ntmps40
    go_wp2_with (first
      | (go_at_call 74; refine (check_c pg wd A0 A1 A2 c0 c1 c2 nd _ (HN.out.boxes below_start)).mono ?_; rintro e w1 ⟨rfl, hb⟩; have hBB := below_first hb; clear hb; obtain ⟨⟨q0, q1⟩, ⟨q2, q3, q4⟩, q5⟩ := two_boxes hBB))
    go_ret
    exact ⟨ret_eq (show Value.int IntKind.i64 0 = _ by rw [sizeE, if_neg HC.out]), below_aa (hBB.mono (by simp))⟩

theorem check_v (pg wd : Int) (A0 A1 A2 : Option Addr) (c0 c1 c2 : Nat) (nd : NodeD) (w : World) (hN : RdN w A0 c0 A1 c1 A2 c2 nd) (v : Int) (hv : checkE pg wd nd = v) :
    Calls Try.prog 74 #[vF pg wd, vN A0 c0 A1 c1 A2 c2 nd] w fun e w' => e = .returned (.int .i64 v) ∧ Below w.heap.size w w' := by
  subst hv; exact check_c pg wd A0 A1 A2 c0 c1 c2 nd w hN
theorem frame_v (pg wd : Int) (w : World) (b : Bool) (hb : right pg wd = b) :
    Calls Try.prog 61 #[vF pg wd] w fun e w' => e = .returned (.bool b) ∧ Below w.heap.size w w' := by
  subst hb; exact frame_c pg wd w

def leafB (pg wd : Int) (nd : NodeD) : Bool := decide (nd.kids.length = 0 ∧ checkE pg wd nd = 0)
def branchB (pg wd : Int) (nd : NodeD) : Bool := decide (0 < nd.kids.length ∧ checkE pg wd nd = 0)

theorem leaf_c (pg wd : Int) (A0 A1 A2 : Option Addr) (c0 c1 c2 : Nat) (nd : NodeD) (w : World) (hN : RdN w A0 c0 A1 c1 A2 c2 nd) :
    Calls Try.prog 62 #[vF pg wd, vN A0 c0 A1 c1 A2 c2 nd] w fun e w' => e = .returned (.bool (leafB pg wd nd)) ∧ Below w.heap.size w w' := by
  have HN := Lib.hid hN
  clear hN
  by_cases hk : nd.kids.length = 0
  · have hfin : leafB pg wd nd = (checkE pg wd nd == 0) := by simp [leafB, hk, Bool.beq_eq_decide_eq]
    have HF := Lib.hid hfin
    have hk1 : ((nd.kids.length : Int) == 0) = true := by simp [hk]
    have HK := Lib.hid hk
    clear hk hfin
    go_enter Try.func62, Try.ntmps62
    go_wp2_with (first
      | (go_at_call 74; refine (check_c pg wd A0 A1 A2 c0 c1 c2 nd _ (HN.out.boxes below_start)).mono ?_; rintro e w1 ⟨rfl, hb⟩; have hBB := below_first hb; clear hb; obtain ⟨⟨q0, q1⟩, ⟨q2, q3, q4⟩, q5⟩ := two_boxes hBB))
    go_ret
    exact ⟨ret_eq (by rw [HF.out]; rfl), below_aa (hBB.mono (by simp))⟩
  · have hfin : leafB pg wd nd = false := by simp [leafB, hk]
    have HF := Lib.hid hfin
    have hk1 : ((nd.kids.length : Int) == 0) = false := by simp [hk]
    have HK := Lib.hid hk
    clear hk hfin
    go_enter Try.func62, Try.ntmps62
    go_wp2
    go_ret
    exact ⟨ret_eq (by rw [HF.out]; rfl), below_aa (Below.refl _ _)⟩

theorem branch_c (pg wd : Int) (A0 A1 A2 : Option Addr) (c0 c1 c2 : Nat) (nd : NodeD) (w : World) (hN : RdN w A0 c0 A1 c1 A2 c2 nd) :
    Calls Try.prog 84 #[vF pg wd, vN A0 c0 A1 c1 A2 c2 nd] w fun e w' => e = .returned (.bool (branchB pg wd nd)) ∧ Below w.heap.size w w' := by
  have HN := Lib.hid hN
  clear hN
  by_cases hk : 0 < nd.kids.length
  · have hfin : branchB pg wd nd = (checkE pg wd nd == 0) := by simp [branchB, hk, Bool.beq_eq_decide_eq]
    have HF := Lib.hid hfin
    clear hfin
    go_enter Try.func84, Try.ntmps84
    go_wp2_with (first
      | (go_at_call 74; refine (check_c pg wd A0 A1 A2 c0 c1 c2 nd _ (HN.out.boxes below_start)).mono ?_; rintro e w1 ⟨rfl, hb⟩; have hBB := below_first hb; clear hb; obtain ⟨⟨q0, q1⟩, ⟨q2, q3, q4⟩, q5⟩ := two_boxes hBB))
    go_ret
    exact ⟨ret_eq (by rw [HF.out]; rfl), below_aa (hBB.mono (by simp))⟩
  · have hfin : branchB pg wd nd = false := by simp [branchB, hk]
    have HF := Lib.hid hfin
    clear hfin
    go_enter Try.func84, Try.ntmps84
    go_wp2
    go_ret
    exact ⟨ret_eq (by rw [HF.out]; rfl), below_aa (Below.refl _ _)⟩

def fullB (pg wd : Int) (nd : NodeD) : Bool := decide (checkE pg wd nd = 0 ∧ pg - 32 < sizeE pg wd nd)
def thinB (pg wd : Int) (nd : NodeD) : Bool := decide (checkE pg wd nd = 0 ∧ sizeE pg wd nd < (pg - 30) / 3)

end Go.Proofs.Ytajkoeodabmgeaa
