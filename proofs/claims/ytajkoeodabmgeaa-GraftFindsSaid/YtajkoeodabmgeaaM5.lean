import Derived.Test.YtajkoeodabmgeaaM4
namespace Go.Proofs.Ytajkoeodabmgeaa
open Go.RowKit
set_option maxHeartbeats 2000000
set_option maxRecDepth 100000

/-- A row of which nobody asks what it holds. -/
def Ow (W : World) (base : Nat) (e : TypeId) (size : Nat) (v : Value) (n : Nat) : Prop := ∃ xs, W.ownsRow base e size v n xs

theorem LS.set0 {S : Nat → Prop} {W0 W : World} {base g b c : Nat} {s1 s2 : Value} {n0 n1 n2 : Nat} {xs0 xs1 xs2 : List Value} (h : LS S W0 W base g (.slice (some ⟨b, 0, none⟩) n0 c) s1 s2 n0 n1 n2 xs0 xs1 xs2) (j : Nat) (u : Value) :
    LS S W0 (W.setCell ⟨b, j, none⟩ u) base g (.slice (some ⟨b, 0, none⟩) n0 c) s1 s2 n0 n1 n2 (xs0.set j u) xs1 xs2 := by
  have hb : b ≠ g := fun e => own_ne_block h.r0 h.box (by decide) (by simp [Value.ownBlock, e])
  have hn1 := own_ne h.r1 h.r0 (by decide)
  have hn2 := own_ne h.r2 h.r0 (by decide)
  obtain ⟨h1, hg⟩ := h.r0.stored j u
  exact ⟨(Below.heap_setCell _ _ _ _ (fun e => hb e.symm)).trans h.box, h1, h.r1.kept hg hn1, h.r2.kept hg hn2, by have := h.hb; simpa using this,
    h.kp.setCell u (h.in0 b rfl), h.in0, h.in1, h.in2, h.ing⟩
theorem LS.set1 {S : Nat → Prop} {W0 W : World} {base g b c : Nat} {s0 s2 : Value} {n0 n1 n2 : Nat} {xs0 xs1 xs2 : List Value} (h : LS S W0 W base g s0 (.slice (some ⟨b, 0, none⟩) n1 c) s2 n0 n1 n2 xs0 xs1 xs2) (j : Nat) (u : Value) :
    LS S W0 (W.setCell ⟨b, j, none⟩ u) base g s0 (.slice (some ⟨b, 0, none⟩) n1 c) s2 n0 n1 n2 xs0 (xs1.set j u) xs2 := by
  have hb : b ≠ g := fun e => own_ne_block h.r1 h.box (by decide) (by simp [Value.ownBlock, e])
  have hn1 := own_ne h.r0 h.r1 (by decide)
  have hn2 := own_ne h.r2 h.r1 (by decide)
  obtain ⟨h1, hg⟩ := h.r1.stored j u
  exact ⟨(Below.heap_setCell _ _ _ _ (fun e => hb e.symm)).trans h.box, h.r0.kept hg hn1, h1, h.r2.kept hg hn2, by have := h.hb; simpa using this,
    h.kp.setCell u (h.in1 b rfl), h.in0, h.in1, h.in2, h.ing⟩
theorem LS.set2 {S : Nat → Prop} {W0 W : World} {base g b c : Nat} {s0 s1 : Value} {n0 n1 n2 : Nat} {xs0 xs1 xs2 : List Value} (h : LS S W0 W base g s0 s1 (.slice (some ⟨b, 0, none⟩) n2 c) n0 n1 n2 xs0 xs1 xs2) (j : Nat) (u : Value) :
    LS S W0 (W.setCell ⟨b, j, none⟩ u) base g s0 s1 (.slice (some ⟨b, 0, none⟩) n2 c) n0 n1 n2 xs0 xs1 (xs2.set j u) := by
  have hb : b ≠ g := fun e => own_ne_block h.r2 h.box (by decide) (by simp [Value.ownBlock, e])
  have hn1 := own_ne h.r0 h.r2 (by decide)
  have hn2 := own_ne h.r1 h.r2 (by decide)
  obtain ⟨h1, hg⟩ := h.r2.stored j u
  exact ⟨(Below.heap_setCell _ _ _ _ (fun e => hb e.symm)).trans h.box, h.r0.kept hg hn1, h.r1.kept hg hn2, h1, by have := h.hb; simpa using this,
    h.kp.setCell u (h.in2 b rfl), h.in0, h.in1, h.in2, h.ing⟩
/-- Many cells of the third row. -/
theorem LS.set2s {S : Nat → Prop} {W0 : World} {base g b c : Nat} {s0 s1 : Value} {n0 n1 n2 : Nat} {xs0 xs1 : List Value} : ∀ (us : List Value) (j : Nat) (W : World) (xs2 : List Value), LS S W0 W base g s0 s1 (.slice (some ⟨b, 0, none⟩) n2 c) n0 n1 n2 xs0 xs1 xs2 →
    ∃ ys, LS S W0 (W.setCells b j us) base g s0 s1 (.slice (some ⟨b, 0, none⟩) n2 c) n0 n1 n2 xs0 xs1 ys
  | [], j, W, xs2, h => ⟨xs2, h⟩
  | u :: us, j, W, xs2, h => LS.set2s us (j + 1) _ _ (h.set2 j u)

/-- A row's form, if it has elements. -/
theorem own_form {w : World} {base : Nat} {e : TypeId} {size n c : Nat} {A : Option Addr} {xs : List Value} (h : w.ownsRow base e size (.slice A n c) n xs) (hn : 0 < n) : ∃ b, A = some ⟨b, 0, none⟩ := by
  rcases h.2 with ⟨e, h0⟩ | ⟨g, cap, cur, hv, _⟩
  · omega
  · cases hv; exact ⟨g, rfl⟩

theorem own_there {w : World} {base : Nat} {e : TypeId} {size n c b : Nat} {xs : List Value} (h : w.ownsRow base e size (.slice (some ⟨b, 0, none⟩) n c) n xs) (o m : Nat) (hm : o + m ≤ n * size) : w.there b o m := fun j hj => by
  refine ⟨?_, h.frozenAt _⟩
  rw [h.cellAt _ (by omega), List.getElem?_eq_getElem (by rw [h.1]; omega)]
  rfl

end Go.Proofs.Ytajkoeodabmgeaa
