import Derived.Test.YtajkoeodabmgeaaX6
namespace Go.Proofs.Ytajkoeodabmgeaa
open Go.RowKit
set_option maxHeartbeats 4000000
set_option maxRecDepth 100000

/-- May so many kids at a place be replaced by these? -/
def argBad (K : Nat) (a m : Int) (k s : Nat) : Prop := a < 0 ∨ m < 1 ∨ (K : Int) < a ∨ (K : Int) - a < m ∨ k = 0 ∨ (s : Int) ≠ k - 1 ∨ (K : Int) - m + k < 2
instance (K : Nat) (a m : Int) (k s : Nat) : Decidable (argBad K a m k s) := by unfold argBad; infer_instance
def spliceN (nd : NodeD) (a m : Int) (ks : List KidD) (ss : List ByteArray) : NodeD :=
  ⟨[], nd.seps.take a.toNat ++ ss ++ nd.seps.drop (a.toNat + (m.toNat - 1)), nd.kids.take a.toNat ++ ks ++ nd.kids.drop (a.toNat + m.toNat)⟩
def spliceE (pg wd : Int) (nd : NodeD) (a m : Int) (ks : List KidD) (ss : List ByteArray) : Int :=
  if right pg wd then (if branchB pg wd nd then (if argBad nd.kids.length a m ks.length ss.length then 2 else if checkE pg wd (spliceN nd a m ks ss) = 0 then 0 else 81) else 80) else 2
def spliceR (pg wd : Int) (nd : NodeD) (a m : Int) (ks : List KidD) (ss : List ByteArray) : NodeD := if spliceE pg wd nd a m ks ss = 0 then spliceN nd a m ks ss else noN

def SplicePost (E : Int) (R : NodeD) (w : World) (e : Ending) (w' : World) : Prop :=
  ∃ z : VH, e = .returned (.tuple #[vN z.A0 z.c0 z.A1 z.c1 z.A2 z.c2 R, .int .i64 E]) ∧ VH.own z w' w.heap.size w'.heap.size R ∧ Below w.heap.size w w'
theorem splice_err (w w1 : World) (E : Int) (hb : Below w.heap.size w w1) :
    SplicePost E noN w (Ending.returned (.tuple #[.agg zero3, .int .i64 E])) w1 :=
  ⟨⟨none, 0, none, 0, none, 0⟩, rfl, own_noN _ _ _, hb⟩

abbrev spW (w : World) (pg wd : Int) (x : VH) (nd : NodeD) : World :=
  (((w.alloc (.cells #[.int .i64 pg, .int .i64 wd] 24)).alloc (.cells (node3 x nd) 29)).alloc (.cells zero3 29)).alloc (.cells zero3 29)
section
variable {w w1 w2 : World} {pg wd : Int} {x : VH} {nd : NodeD}
theorem sp_size (h : Below (w.heap.size + 1 + 1 + 1 + 1) (spW w pg wd x nd) w1) : w.heap.size + 1 + 1 + 1 + 1 ≤ w1.heap.size := by
  have := h.size; simpa [spW] using this
theorem sp_first (hb : Below (spW w pg wd x nd).heap.size (spW w pg wd x nd) w1) : Below (w.heap.size + 1 + 1 + 1 + 1) (spW w pg wd x nd) w1 := hb.mono (by simp [spW])
theorem sp_next (h : Below (w.heap.size + 1 + 1 + 1 + 1) (spW w pg wd x nd) w1) (hb : Below w1.heap.size w1 w2) : Below (w.heap.size + 1 + 1 + 1 + 1) (spW w pg wd x nd) w2 := h.trans (hb.mono (sp_size h))
theorem sp_base : Below w.heap.size w (spW w pg wd x nd) :=
  (((((Below.refl _ _).alloc (Nat.le_refl _) _).alloc (by simp) _).alloc (by simp <;> omega) _).alloc (by simp <;> omega) _)
theorem sp_below (h : Below (w.heap.size + 1 + 1 + 1 + 1) (spW w pg wd x nd) w1) : Below w.heap.size w w1 := sp_base.trans (h.mono (by omega))
theorem sp_row (h : Below (w.heap.size + 1 + 1 + 1 + 1) (spW w pg wd x nd) w1) : w1.heap[w.heap.size + 1 + 1]? = some (.cells zero3 29 (0, 0)) := (h.block _ (by omega)).trans ((Below.heap_alloc _ _ _ (by simp)).trans (alloc3_at w _ _ _))
theorem sp_zero (h : Below (w.heap.size + 1 + 1 + 1 + 1) (spW w pg wd x nd) w1) : w1.heap[w.heap.size + 1 + 1 + 1]? = some (.cells zero3 29 (0, 0)) := (h.block _ (by omega)).trans (alloc4_at w _ _ _ _)
theorem sp_boxes (h : Below (w.heap.size + 1 + 1 + 1 + 1) (spW w pg wd x nd) w1) :
    (w1.cell? ⟨w.heap.size, 0, none⟩ = some (.int .i64 pg) ∧ w1.cell? ⟨w.heap.size, 1, none⟩ = some (.int .i64 wd)) ∧
    (w1.cell? ⟨w.heap.size + 1, 0, none⟩ = some (.slice x.A0 nd.pairs.length x.c0) ∧ w1.cell? ⟨w.heap.size + 1, 1, none⟩ = some (.slice x.A1 nd.seps.length x.c1) ∧ w1.cell? ⟨w.heap.size + 1, 2, none⟩ = some (.slice x.A2 nd.kids.length x.c2)) ∧
    (w.heap.size < w1.heap.size ∧ w.heap.size + 1 < w1.heap.size ∧ w.heap.size + 1 + 1 < w1.heap.size ∧ w.heap.size + 1 + 1 + 1 < w1.heap.size) := by
  have h0 : w1.heap[w.heap.size]? = some (.cells #[.int .i64 pg, .int .i64 wd] 24 (0, 0)) := (h.block _ (by omega)).trans ((Below.heap_alloc _ _ _ (by simp <;> omega)).trans (alloc3_0 w _ _ _))
  have h1 : w1.heap[w.heap.size + 1]? = some (.cells (node3 x nd) 29 (0, 0)) := (h.block _ (by omega)).trans ((Below.heap_alloc _ _ _ (by simp <;> omega)).trans (alloc3_1 w _ _ _))
  have hs := sp_size h
  exact ⟨⟨cell_of_row _ _ 0 _ _ _ h0, cell_of_row _ _ 1 _ _ _ h0⟩, ⟨cell_of_row _ _ 0 _ _ _ h1, cell_of_row _ _ 1 _ _ _ h1, cell_of_row _ _ 2 _ _ _ h1⟩, by omega, by omega, by omega, by omega⟩
end

/-- The parts of a splice that may be. -/
theorem branch_len {pg wd : Int} {nd : NodeD} (h : branchB pg wd nd = true) : nd.seps.length + 1 = nd.kids.length ∧ 2 ≤ nd.kids.length ∧ nd.pairs.length = 0 := by
  obtain ⟨h1, h2⟩ := of_decide_eq_true h
  have h3 := (checkE_zero h2).2
  rw [shaped, if_neg (fun h => by have := h.2; omega)] at h3
  exact ⟨h3.2.2.1, h3.2.1, h3.1⟩
theorem argBad_not {K : Nat} {a m : Int} {k s : Nat} (h : ¬ argBad K a m k s) : ∃ i n : Nat, a = i ∧ m = n + 1 ∧ i + (n + 1) ≤ K ∧ 0 < k ∧ s + 1 = k ∧ 2 + (n + 1) ≤ K + k := by
  unfold argBad at h
  exact ⟨a.toNat, m.toNat - 1, by omega, by omega, by omega, by omega, by omega, by omega⟩
theorem splice_parts (nd : NodeD) (i n : Nat) (ks : List KidD) (ss : List ByteArray) : spliceN nd i (n + 1) ks ss = ⟨[], nd.seps.take i ++ ss ++ nd.seps.drop (i + n), nd.kids.take i ++ ks ++ nd.kids.drop (i + (n + 1))⟩ := by
  simp [spliceN]

end Go.Proofs.Ytajkoeodabmgeaa
