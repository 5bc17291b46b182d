import Derived.Test.YtajkoeodabmgeaaF2
namespace Go.Proofs.Ytajkoeodabmgeaa
open Go.RowKit
set_option maxHeartbeats 2000000
set_option maxRecDepth 100000

theorem own_type {w : World} {base : Nat} {e : TypeId} {size n : Nat} {v : Value} {xs : List Value} (h : w.ownsRow base e size v n xs) : ∀ k, v.ownBlock = some k → ∃ cs, w.heap[k]? = some (.cells cs e (0, 0)) := by
  intro k hk
  rcases h.2 with ⟨rfl, _⟩ | ⟨g, cap, cur, rfl, _, hg, _⟩
  · simp [Value.ownBlock] at hk
  · simp only [Value.ownBlock, Option.some.injEq] at hk
    subst hk
    exact ⟨cur, hg⟩
theorem own_ne {w : World} {base base' : Nat} {e e' : TypeId} {size size' n n' : Nat} {v v' : Value} {xs xs' : List Value} (h : w.ownsRow base e size v n xs) (h' : w.ownsRow base' e' size' v' n' xs') (he : e ≠ e') : v.ownBlock = none ∨ v.ownBlock ≠ v'.ownBlock := by
  cases hv : v.ownBlock with
  | none => exact .inl rfl
  | some k =>
    right
    intro hk
    obtain ⟨c, hc⟩ := own_type h k hv
    obtain ⟨c', hc'⟩ := own_type h' k hk.symm
    rw [hc] at hc'
    simp only [Option.some.injEq, Obj.cells.injEq] at hc'
    exact he hc'.2.1
theorem own_ne_block {w : World} {base : Nat} {e t : TypeId} {size n g : Nat} {v : Value} {xs : List Value} {cs : Array Value} {fr : Nat × Nat} (h : w.ownsRow base e size v n xs) (hg : w.heap[g]? = some (.cells cs t fr)) (he : e ≠ t) : v.ownBlock ≠ some g := by
  intro hk
  obtain ⟨c, hc⟩ := own_type h g hk
  rw [hc] at hg
  simp only [Option.some.injEq, Obj.cells.injEq] at hg
  exact he hg.2.1

/-- A step that may write the box and the rows' blocks, and nothing else of old. -/
theorem Kept.setCell {S : Nat → Prop} {a b : World} (h : Kept S a b) {g o : Nat} (v : Value) (hg : S g ∨ a.heap.size ≤ g) : Kept S a (b.setCell ⟨g, o, none⟩ v) :=
  ⟨h.os, h.tape, h.output, by simpa using h.size, fun k hk hs => by
    rw [Below.heap_setCell _ _ _ _ (fun e => by
      have e : k = g := e
      subst e
      rcases hg with hg | hg
      · exact hs hg
      · omega)]
    exact h.block k hk hs⟩

/-- Three rows of one's own, and a box that holds them; what the walk has written since W0 lies in S or is younger. -/
structure LS (S : Nat → Prop) (W0 W : World) (base g : Nat) (s0 s1 s2 : Value) (n0 n1 n2 : Nat) (xs0 xs1 xs2 : List Value) : Prop where
  box : W.heap[g]? = some (.cells #[s0, s1, s2] 29 (0, 0))
  r0 : W.ownsRow base 31 2 s0 n0 xs0
  r1 : W.ownsRow base 9 1 s1 n1 xs1
  r2 : W.ownsRow base 85 33 s2 n2 xs2
  hb : base ≤ W.heap.size
  kp : Kept S W0 W
  in0 : ∀ k, s0.ownBlock = some k → S k ∨ W0.heap.size ≤ k
  in1 : ∀ k, s1.ownBlock = some k → S k ∨ W0.heap.size ≤ k
  in2 : ∀ k, s2.ownBlock = some k → S k ∨ W0.heap.size ≤ k
  ing : S g ∨ W0.heap.size ≤ g

section
variable {S : Nat → Prop} {W0 W W' : World} {base g : Nat} {s0 s1 s2 : Value} {n0 n1 n2 : Nat} {xs0 xs1 xs2 : List Value}
theorem LS.lt (h : LS S W0 W base g s0 s1 s2 n0 n1 n2 xs0 xs1 xs2) : g < W.heap.size := (Array.getElem?_eq_some_iff.1 h.box).1
theorem LS.below (h : LS S W0 W base g s0 s1 s2 n0 n1 n2 xs0 xs1 xs2) (hb : Below W.heap.size W W') : LS S W0 W' base g s0 s1 s2 n0 n1 n2 xs0 xs1 xs2 :=
  ⟨(hb.block _ h.lt).trans h.box, own_below h.r0 hb, own_below h.r1 hb, own_below h.r2 hb, Nat.le_trans h.hb hb.size, h.kp.step hb, h.in0, h.in1, h.in2, h.ing⟩
theorem LS.alloc (h : LS S W0 W base g s0 s1 s2 n0 n1 n2 xs0 xs1 xs2) (o : Obj) : LS S W0 (W.alloc o) base g s0 s1 s2 n0 n1 n2 xs0 xs1 xs2 :=
  h.below ((Below.refl _ _).alloc (Nat.le_refl _) _)

/-- The box's cell is written. -/
theorem set_box (h : W.heap[g]? = some (.cells #[s0, s1, s2] 29 (0, 0))) (v : Value) :
    (W.setCell ⟨g, 0, none⟩ v).heap[g]? = some (.cells #[v, s1, s2] 29 (0, 0)) ∧ (W.setCell ⟨g, 1, none⟩ v).heap[g]? = some (.cells #[s0, v, s2] 29 (0, 0)) ∧ (W.setCell ⟨g, 2, none⟩ v).heap[g]? = some (.cells #[s0, s1, v] 29 (0, 0)) :=
  ⟨heap_setCell_same W g 0 _ _ v h, heap_setCell_same W g 1 _ _ v h, heap_setCell_same W g 2 _ _ v h⟩
theorem box_facts (h : W.heap[g]? = some (.cells #[s0, s1, s2] 29 (0, 0))) :
    (W.cell? ⟨g, 0, none⟩ = some s0 ∧ W.cell? ⟨g, 1, none⟩ = some s1 ∧ W.cell? ⟨g, 2, none⟩ = some s2) ∧ (W.frozen? ⟨g, 0, none⟩ = false ∧ W.frozen? ⟨g, 1, none⟩ = false ∧ W.frozen? ⟨g, 2, none⟩ = false) :=
  ⟨⟨cell_of_row _ _ 0 _ _ _ h, cell_of_row _ _ 1 _ _ _ h, cell_of_row _ _ 2 _ _ _ h⟩, frozen_of_row _ _ _ _ _ h, frozen_of_row _ _ _ _ _ h, frozen_of_row _ _ _ _ _ h⟩

theorem LS.mid0 (h : LS S W0 W base g s0 s1 s2 n0 n1 n2 xs0 xs1 xs2) (hg : W.grownBy W' s0.ownBlock) : W'.heap[g]? = some (.cells #[s0, s1, s2] 29 (0, 0)) :=
  (hg.block g h.lt (fun e => own_ne_block h.r0 h.box (by decide) e.symm)).trans h.box
theorem LS.mid1 (h : LS S W0 W base g s0 s1 s2 n0 n1 n2 xs0 xs1 xs2) (hg : W.grownBy W' s1.ownBlock) : W'.heap[g]? = some (.cells #[s0, s1, s2] 29 (0, 0)) :=
  (hg.block g h.lt (fun e => own_ne_block h.r1 h.box (by decide) e.symm)).trans h.box
theorem LS.mid2 (h : LS S W0 W base g s0 s1 s2 n0 n1 n2 xs0 xs1 xs2) (hg : W.grownBy W' s2.ownBlock) : W'.heap[g]? = some (.cells #[s0, s1, s2] 29 (0, 0)) :=
  (hg.block g h.lt (fun e => own_ne_block h.r2 h.box (by decide) e.symm)).trans h.box

theorem in_next {v v' : Value} (hin : ∀ k, v.ownBlock = some k → S k ∨ W0.heap.size ≤ k) (hs : W0.heap.size ≤ W.heap.size) (hx : v'.ownBlock = v.ownBlock ∨ v'.ownBlock = some W.heap.size) : ∀ k, v'.ownBlock = some k → S k ∨ W0.heap.size ≤ k := by
  intro k hk
  rcases hx with hx | hx
  · exact hin k (hx ▸ hk)
  · rw [hx] at hk
    cases hk
    exact .inr hs

theorem LS.app0 (h : LS S W0 W base g s0 s1 s2 n0 n1 n2 xs0 xs1 xs2) {v : Value} {n : Nat} {xs : List Value} (ho : W'.ownsRow base 31 2 v n xs) (hg : W.grownBy W' s0.ownBlock) (hx : v.ownBlock = s0.ownBlock ∨ v.ownBlock = some W.heap.size) :
    LS S W0 (W'.setCell ⟨g, 0, none⟩ v) base g v s1 s2 n n1 n2 xs xs1 xs2 := by
  have hm := h.mid0 hg
  have h1 := h.r1.kept hg (own_ne h.r1 h.r0 (by decide))
  have h2 := h.r2.kept hg (own_ne h.r2 h.r0 (by decide))
  exact ⟨(set_box hm v).1, ownsRow_setCell_other ho (own_ne_block ho hm (by decide)) v, ownsRow_setCell_other h1 (own_ne_block h1 hm (by decide)) v, ownsRow_setCell_other h2 (own_ne_block h2 hm (by decide)) v, by have := h.hb; have := hg.size; simp; omega,
    (h.kp.grown hg (fun k e hlt => (h.in0 k e).resolve_right (by omega))).setCell v h.ing, in_next h.in0 h.kp.size hx, h.in1, h.in2, h.ing⟩
theorem LS.app1 (h : LS S W0 W base g s0 s1 s2 n0 n1 n2 xs0 xs1 xs2) {v : Value} {n : Nat} {xs : List Value} (ho : W'.ownsRow base 9 1 v n xs) (hg : W.grownBy W' s1.ownBlock) (hx : v.ownBlock = s1.ownBlock ∨ v.ownBlock = some W.heap.size) :
    LS S W0 (W'.setCell ⟨g, 1, none⟩ v) base g s0 v s2 n0 n n2 xs0 xs xs2 := by
  have hm := h.mid1 hg
  have h1 := h.r0.kept hg (own_ne h.r0 h.r1 (by decide))
  have h2 := h.r2.kept hg (own_ne h.r2 h.r1 (by decide))
  exact ⟨(set_box hm v).2.1, ownsRow_setCell_other h1 (own_ne_block h1 hm (by decide)) v, ownsRow_setCell_other ho (own_ne_block ho hm (by decide)) v, ownsRow_setCell_other h2 (own_ne_block h2 hm (by decide)) v, by have := h.hb; have := hg.size; simp; omega,
    (h.kp.grown hg (fun k e hlt => (h.in1 k e).resolve_right (by omega))).setCell v h.ing, h.in0, in_next h.in1 h.kp.size hx, h.in2, h.ing⟩
theorem LS.app2 (h : LS S W0 W base g s0 s1 s2 n0 n1 n2 xs0 xs1 xs2) {v : Value} {n : Nat} {xs : List Value} (ho : W'.ownsRow base 85 33 v n xs) (hg : W.grownBy W' s2.ownBlock) (hx : v.ownBlock = s2.ownBlock ∨ v.ownBlock = some W.heap.size) :
    LS S W0 (W'.setCell ⟨g, 2, none⟩ v) base g s0 s1 v n0 n1 n xs0 xs1 xs := by
  have hm := h.mid2 hg
  have h1 := h.r0.kept hg (own_ne h.r0 h.r2 (by decide))
  have h2 := h.r1.kept hg (own_ne h.r1 h.r2 (by decide))
  exact ⟨(set_box hm v).2.2, ownsRow_setCell_other h1 (own_ne_block h1 hm (by decide)) v, ownsRow_setCell_other h2 (own_ne_block h2 hm (by decide)) v, ownsRow_setCell_other ho (own_ne_block ho hm (by decide)) v, by have := h.hb; have := hg.size; simp; omega,
    (h.kp.grown hg (fun k e hlt => (h.in2 k e).resolve_right (by omega))).setCell v h.ing, h.in0, h.in1, in_next h.in2 h.kp.size hx, h.ing⟩
end

end Go.Proofs.Ytajkoeodabmgeaa
