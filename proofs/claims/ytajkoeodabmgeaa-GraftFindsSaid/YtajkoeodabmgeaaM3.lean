import Derived.Test.YtajkoeodabmgeaaM2
namespace Go.Proofs.Ytajkoeodabmgeaa
open Go.RowKit
set_option maxHeartbeats 2000000
set_option maxRecDepth 100000

theorem long_len (nd : NodeD) (k : Nat) : (longN nd k).pairs.length = nd.pairs.length + k ∧ (longN nd k).seps.length = nd.seps.length + k ∧ (longN nd k).kids.length = nd.kids.length + k := by simp [longN]

/-- A node that reads with marks behind it reads. -/
theorem RdN.short {w : World} {A0 A1 A2 : Option Addr} {c0 c1 c2 k : Nat} {nd : NodeD} (h : RdN w A0 c0 A1 c1 A2 c2 (longN nd k)) : RdN w A0 c0 A1 c1 A2 c2 nd := by
  obtain ⟨l0, l1, l2⟩ := long_len nd k
  have hkk : ∀ q ∈ nd.kids, q.sum.length = 32 := fun q hq => h.kk q (by simp [longN, hq])
  exact {
    pairs := by
      have := h.pairs.take (k := nd.pairs.length) (by omega)
      rw [pcells_take] at this
      simpa [longN] using this
    seps := by
      have := h.seps.take (k := nd.seps.length) (by omega)
      rw [scells_take] at this
      simpa [longN] using this
    kids := by
      have := h.kids.take (k := nd.kids.length) (by omega)
      rw [kcells_take _ _ h.kk] at this
      simpa [longN] using this
    hp := by have := h.hp; omega
    hs := by have := h.hs; omega
    hk := by have := h.hk; omega
    hcp := by have := h.hcp; omega
    hcs := by have := h.hcs; omega
    hck := by have := h.hck; omega
    pk := fun q hq => h.pk q (by simp [longN, hq])
    sk := fun q hq => h.sk q (by simp [longN, hq])
    kk := hkk }

theorem long_at {nd : NodeD} {k j : Nat} (h : j < k) : (∀ h', (longN nd k).pairs[nd.pairs.length + j]'h' = markP) ∧ (∀ h', (longN nd k).seps[nd.seps.length + j]'h' = markS) ∧ (∀ h', (longN nd k).kids[nd.kids.length + j]'h' = markK) := by
  refine ⟨fun h' => ?_, fun h' => ?_, fun h' => ?_⟩
  · simp [longN, List.getElem_append_right]
  · simp [longN, List.getElem_append_right]
  · simp [longN, List.getElem_append_right]

/-- What stands in the room behind a lent node's lists. -/
theorem marks_at {w : World} {B0 B1 B2 : Option Addr} {d0 d1 d2 : Nat} {nd : NodeD} (h : RdN w B0 d0 B1 d1 B2 d2 (longN nd 4)) {j : Nat} (hj : j < 4) :
    ∃ b0 o0 b1 o1 b2 o2, B0 = some ⟨b0, o0, none⟩ ∧ B1 = some ⟨b1, o1, none⟩ ∧ B2 = some ⟨b2, o2, none⟩ ∧ w.cell? ⟨b0, o0 + (nd.pairs.length + j) * 2, none⟩ = some (.string ⟨#[109, 97, 114, 107]⟩) ∧
      w.cell? ⟨b1, o1 + (nd.seps.length + j), none⟩ = some (.string ⟨#[109, 97, 114, 107]⟩) ∧ w.cell? ⟨b2, o2 + (nd.kids.length + j) * 33, none⟩ = some (.int .u32 77) := by
  obtain ⟨l0, l1, l2⟩ := long_len nd 4
  obtain ⟨e0, e1, e2⟩ := @long_at nd 4 j hj
  obtain ⟨b0, o0, h0, p0, _⟩ := pairs_at h.pairs (k := nd.pairs.length + j) (by omega)
  obtain ⟨b1, o1, h1, p1⟩ := seps_at h.seps (k := nd.seps.length + j) (by omega)
  obtain ⟨b2, o2, h2, p2⟩ := kids_at h.kids h.kk (k := nd.kids.length + j) (by omega)
  rw [e0] at p0
  rw [e1] at p1
  rw [e2] at p2
  exact ⟨b0, o0, b1, o1, b2, o2, h0, h1, h2, p0, p1, p2 0 (.int .u32 77) rfl⟩

end Go.Proofs.Ytajkoeodabmgeaa
