import Derived.Test.YtajkoeodabmgeaaF4
import Derived.Deep.RegionHeld
namespace Go.Proofs.Ytajkoeodabmgeaa
open Go.RowKit

section
variable {P : Program} {ops : Array Oper} {Q : Exit → Act → World → Prop} {S : World → Prop}

/-- One order of a region's operations: the number; is it taken first? -/
def schedOk (ops : Array Oper) : List (Nat × Bool) → Array Bool → Bool
  | [], l => (Region.ready .any ops l).isEmpty
  | (i, true) :: r, l => Region.free .any ops l i && (Region.ready .any ops l).contains i && schedOk ops r (l.setIfInBounds i true)
  | (i, false) :: r, l => (Region.ready .any ops l == [i]) && schedOk ops r (l.setIfInBounds i true)

/-- The region in that order. -/
def wpSched (P : Program) (ops : Array Oper) (Q : Exit → Act → World → Prop) (S : World → Prop) : List (Nat × Bool) → Act → World → Prop
  | [], a, w => Q .normal a w
  | (i, true) :: r, a, w => ∃ o v, ops[i]? = some o ∧ YieldsIf P ops S o v a ∧ wpSched P ops Q S r (a.put o.dst v) w
  | (i, false) :: r, a, w => wpOp P ops Q i (fun a' w' => S w' ∧ wpSched P ops Q S r a' w') a w

theorem wpAnyH_of_sched (hs : Region.noSelect ops = true) (hQ : ∀ c (a : Act) d v w, Q (.panic c) (a.put d v) w → Q (.panic c) a w) : ∀ (l : List (Nat × Bool)) (listed : Array Bool) (a : Act) (w : World),
    schedOk ops l listed = true → S w → wpSched P ops Q S l a w → wpAnyH P .any ops Q S l.length listed a w
  | [], listed, a, w, h, _, hw => ⟨by simpa [schedOk] using h, hw⟩
  | (i, true) :: r, listed, a, w, h, hS, hw => by
    obtain ⟨o, v, hi, hy, hw⟩ := hw
    simp only [schedOk, Bool.and_eq_true] at h
    exact wpAnyH_take hi hs h.1.1 h.1.2 (fun c a w => hQ c a _ _ w) hy hS (wpAnyH_of_sched hs hQ r _ _ w h.2 hS hw)
  | (i, false) :: r, listed, a, w, h, hS, hw => by
    simp only [schedOk, Bool.and_eq_true, beq_iff_eq] at h
    refine wpAnyH_all h.1 (by simp) (fun j hj => ?_)
    obtain rfl : j = i := by simpa using hj
    exact wpOp_mono (fun a' w' h' => ⟨h'.1, wpAnyH_of_sched hs hQ r _ a' w' h.2 h'.1 h'.2⟩) hw

theorem wp_region_sched {id : Nat} {a : Act} {w : World} (sched : List (Nat × Bool)) (hm : P.follows .mixedOrders = true) (hl : (sched.length == ops.size) = true)
    (hok : (schedOk ops sched (Array.replicate ops.size false) && Region.noSelect ops) = true) (hQ : ∀ c (a : Act) d v w, Q (.panic c) (a.put d v) w → Q (.panic c) a w) (hS : S w.drew) (h : wpSched P ops Q S sched a w.drew) :
    (Code.region id ops true).wp P Q a w := by
  simp only [Bool.and_eq_true] at hok
  refine wp_region_held_drew (S := S) hm hS fun hS => ?_
  have := wpAnyH_of_sched hok.2 hQ sched _ a _ hok.1 hS h
  rwa [beq_iff_eq.1 hl] at this

theorem at_drop {i : Nat} {o : Oper} {t : List Oper} (h : ops.toList.drop i = o :: t) : ops[i]? = some o := by
  have := congrArg List.head? h
  simpa [List.head?_drop] using this

theorem sched_take {i : Nat} {o : Oper} {v : Value} {r : List (Nat × Bool)} {a : Act} {w : World} {t : List Oper} (ho : ops.toList.drop i = o :: t) (hw : Region.wanted o (yielded ops a.tmps) = true)
    (h1 : ∀ w, S w → (execOp a.eval o).run P w = .ok (.value v) w) (h : wpSched P ops Q S r (a.put o.dst v) w) : wpSched P ops Q S ((i, true) :: r) a w :=
  ⟨o, v, at_drop ho, .inl ⟨hw, h1⟩, h⟩
theorem sched_done {a : Act} {w : World} (h : Q .normal a w) : wpSched P ops Q S [] a w := h
theorem sched_pass {i : Nat} {o : Oper} {r : List (Nat × Bool)} {a : Act} {w : World} {t : List Oper} (ho : ops.toList.drop i = o :: t) (hw : Region.wanted o (yielded ops a.tmps) = false)
    (h : wpSched P ops Q S r (a.put o.dst undef) w) : wpSched P ops Q S ((i, true) :: r) a w :=
  ⟨o, undef, at_drop ho, .inr ⟨hw, rfl⟩, h⟩
theorem sched_run {i : Nat} {o : Oper} {r : List (Nat × Bool)} {a : Act} {w : World} {t : List Oper} (ho : ops.toList.drop i = o :: t) (hw : Region.wanted o (yielded ops a.tmps) = true)
    (h : ∀ K' : Act → World → Prop, Shut (∀ a w, S w → (S w → wpSched P ops Q S r a w) → K' a w) → Oper.wp P o a w K' Q) : wpSched P ops Q S ((i, false) :: r) a w := by
  refine wpOp_step (at_drop ho) (fun K' hK => ?_)
  rw [if_pos hw]
  exact h K' (fun a w hS hW => hK a w ⟨hS, hW hS⟩)
end

/-- A block of so many cells, none of them frozen. -/
def RowAt (w : World) (g n : Nat) (t : TypeId) : Prop := ∃ cs, w.heap[g]? = some (.cells cs t (0, 0)) ∧ cs.size = n

theorem RowAt.setRow {w : World} {g n : Nat} {t : TypeId} (h : RowAt w g n t) (cs : Array Value) (hn : cs.size = n) : RowAt (w.setRow g cs) g n t ∧ (w.setRow g cs).heap[g]? = some (.cells cs t (0, 0)) := by
  obtain ⟨old, h, _⟩ := h
  exact ⟨⟨cs, setRow_block _ _ _ _ _ _ h, hn⟩, setRow_block _ _ _ _ _ _ h⟩
theorem RowAt.below {w w' : World} {g n : Nat} {t : TypeId} (h : RowAt w g n t) (hb : Below w.heap.size w w') : RowAt w' g n t := by
  obtain ⟨cs, h, hn⟩ := h
  exact ⟨cs, (hb.block g (Array.getElem?_eq_some_iff.1 h).1).trans h, hn⟩
theorem RowAt.lt {w : World} {g n : Nat} {t : TypeId} (h : RowAt w g n t) : g < w.heap.size := by
  obtain ⟨cs, h, _⟩ := h
  exact (Array.getElem?_eq_some_iff.1 h).1

/-- What a region with one result box keeps: all below the box; the box is a block of so many cells. -/
def Box (g n : Nat) (t : TypeId) (w0 w : World) : Prop := Below g w0 w ∧ RowAt w g n t
theorem Box.drew {g n : Nat} {t : TypeId} {w0 w : World} (h : Box g n t w0 w) : Box g n t w0 w.drew := ⟨h.1.drew, h.2⟩
theorem Box.step {g n : Nat} {t : TypeId} {w0 w w' : World} (h : Box g n t w0 w) (hb : Below w.heap.size w w') : Box g n t w0 w' :=
  ⟨h.1.trans (hb.mono (Nat.le_of_lt h.2.lt)), h.2.below hb⟩
theorem Box.setRow {g n : Nat} {t : TypeId} {w0 w : World} (h : Box g n t w0 w) (cs : Array Value) (hn : cs.size = n) : Box g n t w0 (w.setRow g cs) :=
  ⟨below_setRow h.1 (Nat.le_refl _) _, (h.2.setRow cs hn).1⟩

/-- The result's store, in such a region. -/
theorem wp_store_box {P : Program} {o : Oper} {a : Act} {w w0 : World} {K : Act → World → Prop} {Q : Exit → Act → World → Prop} {g n : Nat} {t : TypeId} (h0 : Box g n t w0 w) (ty : TypeId) (x y : Operand) (ho : o.op = .store ty x y)
    (cells : Array Value) (hx : a.eval x = .pointer (some ⟨g, 0, none⟩)) (hy : a.eval y = .agg cells) (hi : (P.info? ty).map (·.size) = some n)
    (hn : cells.size = n) (h1 : cells.all (·.oneCell') = true)
    (h : K (a.put o.dst undef) (w.setRow g cells)) : o.wp P a w K Q := by
  obtain ⟨old, hg, hsz⟩ := h0.2
  exact wp_store_row ty x y ho g cells hx hy t old hg (by rw [hi, hn]) (hsz.trans hn.symm) h1 h

end Go.Proofs.Ytajkoeodabmgeaa
