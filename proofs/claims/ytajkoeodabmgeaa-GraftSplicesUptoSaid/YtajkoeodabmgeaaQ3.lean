import Derived.Test.YtajkoeodabmgeaaZ8
import Derived.Test.YtajkoeodabmgeaaZ5
namespace Go.Proofs.Ytajkoeodabmgeaa
open Go.ChangeShapes Go.WideShapes Go.ChangeAt Go.RowKit Go.Deep
set_option maxRecDepth 100000

theorem cells54 : Try.prog.cellsOf 54 = 7 := by kernel_rfl

section
variable {H : Type} {enc : TypeId × Value → H} {W : World}

theorem one_le_bulk {H : Type} (d : DataW H) : 1 ≤ Rows.uptoBulk d := by
  cases d with
  | lit l => cases l <;> simp [Rows.uptoBulk]
  | _ => simp [Rows.uptoBulk]
theorem len_bulk {H : Type} (l : List (DataW H)) : l.length ≤ Rows.uptoBulkAll l := by
  induction l with
  | nil => simp [Rows.uptoBulkAll]
  | cons x r ih => have := one_le_bulk x; simp only [Rows.uptoBulkAll, List.length_cons]; omega
theorem slice_bulk {t e : TypeId} {fuel : Nat} {A : Option Addr} {n c : Nat} {x : DataW H × List MemPlace} (ht : Try.prog.underlying t = some (.slice e))
    (h : DataW.trod enc Try.prog W 0 (fun _ => true) true fuel t [.slice A n c] = some x) : n ≤ Rows.uptoBulk x.1 := by
  rcases open_slice ht h with ⟨e1, _⟩ | ⟨a, len, cap, m, n', D, Pl, e1, _, hl, _, hmm, rfl, hx⟩
  · cases e1; exact Nat.zero_le _
  · cases e1
    simp only [Rows.uptoBulk]
    have := len_bulk ((List.range n).map D)
    simp only [List.length_map, List.length_range] at this
    omega

/-- A node's cells that came in. -/
theorem open_node_cells {m : Nat} {l : List Value} {y : DataW H × List MemPlace} (hh : DataW.trod enc Try.prog W 0 (fun _ => true) true m 29 l = some y) (wt : ∀ k ∈ y.1.weights Try.prog 29, k ≤ reachBytes) :
    ∃ (x : VH) (nd : NodeD), l = [.slice x.A0 nd.pairs.length x.c0, .slice x.A1 nd.seps.length x.c1, .slice x.A2 nd.kids.length x.c2] ∧ RdN W x.A0 x.c0 x.A1 x.c1 x.A2 x.c2 nd ∧ Room 100 nd ∧ nd.pairs.length + nd.seps.length + nd.kids.length ≤ Rows.uptoBulk y.1 := by
  obtain ⟨xs, n, _, rfl, hl, hxl, hf⟩ := DataW.trod_struct Try.underlying29 hh
  rw [cells29] at hl
  obtain ⟨v0, v1, v2, hl3⟩ := list3 hl
  have hl3 : l = [v0, v1, v2] := hl3
  subst hl3
  obtain ⟨x0, x1, x2, rfl⟩ := list3 (show xs.length = 3 from hxl)
  have h0 : DataW.trod enc Try.prog W 0 (fun _ => true) true n 25 (([v0, v1, v2].drop 0).take (Try.prog.cellsOf 25)) = some x0 := hf 0 _ rfl
  have h1 : DataW.trod enc Try.prog W 0 (fun _ => true) true n 26 (([v0, v1, v2].drop 1).take (Try.prog.cellsOf 26)) = some x1 := hf 1 _ rfl
  have h2 : DataW.trod enc Try.prog W 0 (fun _ => true) true n 27 (([v0, v1, v2].drop 2).take (Try.prog.cellsOf 27)) = some x2 := hf 2 _ rfl
  rw [cells25] at h0
  rw [cells26] at h1
  rw [cells27] at h2
  have w0 : ∀ k ∈ x0.1.weights Try.prog 25, k ≤ reachBytes := fun k hk => wt k (by simp [DataW.weights, Try.underlying29, DataW.weightsEach, hk])
  have w1 : ∀ k ∈ x1.1.weights Try.prog 26, k ≤ reachBytes := fun k hk => wt k (by simp [DataW.weights, Try.underlying29, DataW.weightsEach, hk])
  have w2 : ∀ k ∈ x2.1.weights Try.prog 27, k ≤ reachBytes := fun k hk => wt k (by simp [DataW.weights, Try.underlying29, DataW.weightsEach, hk])
  obtain ⟨A0, n0, c0, xs0, e0, nc0, b0, r0, g0⟩ := open_rd Try.underlying25 cells31 (by decide) h0 w0
  obtain ⟨A1, n1, c1, xs1, e1, nc1, b1, r1, g1⟩ := open_rd Try.underlying26 cells9 (by decide) h1 w1
  obtain ⟨A2, n2, c2, xs2, e2, nc2, b2, r2, g2⟩ := open_rd Try.underlying27 cells85 (by decide) h2 w2
  simp at e0 e1 e2
  subst e0 e1 e2
  have u0 := slice_bulk Try.underlying25 h0
  have u1 := slice_bulk Try.underlying26 h1
  have u2 := slice_bulk Try.underlying27 h2
  rw [bytes31] at b0
  rw [bytes9] at b1
  rw [bytes85] at b2
  unfold reachBytes at b0 b1 b2
  obtain ⟨lp, hp1, hp2, hp3⟩ := chunk_list PairD.cells 2 (fun p => p.k.size ≤ 140737488355328 ∧ p.v.size ≤ 140737488355328) (fun _ _ => rfl) n0 xs0 r0.1 (fun i hi => by
    obtain ⟨cs', m, y, e, _, ht, hw⟩ := g0 i hi
    obtain ⟨p, hq, hc⟩ := open_pair_cells ht hw
    exact ⟨p, hq, e.trans hc⟩)
  obtain ⟨ls, hs1, hs2, hs3⟩ := chunk_list (fun s : ByteArray => [Value.string s]) 1 (fun s => s.size ≤ 140737488355328) (fun _ _ => rfl) n1 xs1 r1.1 (fun i hi => by
    obtain ⟨cs', m, y, e, _, ht, hw⟩ := g1 i hi
    obtain ⟨p, hq, hc⟩ := open_text_cells ht hw
    exact ⟨p, hq, e.trans hc⟩)
  obtain ⟨lk, hk1, hk2, hk3⟩ := chunk_list KidD.cells 33 (fun k => k.sum.length = 32) (fun k hk => by simp [KidD.cells, hk]) n2 xs2 r2.1 (fun i hi => by
    obtain ⟨cs', m, y, e, _, ht, hw⟩ := g2 i hi
    obtain ⟨p, hq, hc⟩ := open_kid_cells ht
    exact ⟨p, hq, e.trans hc⟩)
  have hs2' : scells ls = xs1 := by rw [← hs2]; clear hs1 hs2 hs3; unfold scells; induction ls with
    | nil => rfl
    | cons a l ih => simp [ih]
  subst hp1 hs1 hk1
  refine ⟨⟨A0, c0, A1, c1, A2, c2⟩, ⟨lp, ls, lk⟩, rfl, ?_, ?_⟩
  · exact {
      pairs := by rw [show pcells lp = xs0 from hp2]; exact r0
      seps := by rw [hs2']; exact r1
      kids := by rw [show kcells lk = xs2 from hk2]; exact r2
      hp := by simp only; omega
      hs := by simp only; omega
      hk := by simp only; omega
      hcp := nc0
      hcs := nc1
      hck := nc2
      pk := hp3
      sk := hs3
      kk := hk3 }
  · refine ⟨⟨by simp only; omega, by simp only; omega, by simp only; omega⟩, ?_⟩
    simp only [Rows.uptoBulk, Rows.uptoBulkAll, List.map_cons, List.map_nil]
    omega

/-- Halves that came in. -/
theorem open_halves {r : Reach} {b0 : Nat} {v : Value} {d : DataW H} {ps : List MemPlace} (hv : Value.okWide Try.prog W r b0 54 v) (h : DataW.Trod enc Try.prog W 0 (fun _ => true) true 54 v d ps) (wt : ∀ k ∈ d.weights Try.prog 54, k ≤ reachBytes) :
    ∃ (x y : VH) (L R : NodeD) (s : ByteArray), v = vH x L s y R ∧ RdN W x.A0 x.c0 x.A1 x.c1 x.A2 x.c2 L ∧ RdN W y.A0 y.c0 y.A1 y.c1 y.A2 y.c2 R ∧ Room 100 L ∧ Room 100 R ∧ s.size ≤ 140737488355328 ∧ (L.pairs.length + L.seps.length + L.kids.length) + (R.pairs.length + R.seps.length + R.kids.length) ≤ Rows.uptoBulk d := by
  obtain ⟨cs, rfl, hsz⟩ := okWide_struct Try.underlying54 hv
  obtain ⟨fuel, hh⟩ := h
  obtain ⟨xs, n, _, hx, hl, hxl, hf⟩ := DataW.trod_struct Try.underlying54 hh
  obtain ⟨l⟩ := cs
  rw [cells54] at hl
  match l, hl with
  | [v0, v1, v2, v3, v4, v5, v6], _ =>
    obtain ⟨x0, x1, x2, rfl⟩ := list3 (show xs.length = 3 from hxl)
    simp only [Prod.mk.injEq] at hx
    obtain ⟨rfl, _⟩ := hx
    have h0 : DataW.trod enc Try.prog W 0 (fun _ => true) true n 29 (([v0, v1, v2, v3, v4, v5, v6].drop 0).take (Try.prog.cellsOf 29)) = some x0 := hf 0 _ rfl
    have h1 : DataW.trod enc Try.prog W 0 (fun _ => true) true n 9 (([v0, v1, v2, v3, v4, v5, v6].drop 3).take (Try.prog.cellsOf 9)) = some x1 := hf 1 _ rfl
    have h2 : DataW.trod enc Try.prog W 0 (fun _ => true) true n 29 (([v0, v1, v2, v3, v4, v5, v6].drop 4).take (Try.prog.cellsOf 29)) = some x2 := hf 2 _ rfl
    rw [cells29] at h0 h2
    rw [cells9] at h1
    have w0 : ∀ k ∈ x0.1.weights Try.prog 29, k ≤ reachBytes := fun k hk => wt k (by rw [DataW.weights, Try.underlying54]; simp [DataW.weightsEach, hk])
    have w1 : ∀ k ∈ x1.1.weights Try.prog 9, k ≤ reachBytes := fun k hk => wt k (by rw [DataW.weights, Try.underlying54]; simp [DataW.weightsEach, hk])
    have w2 : ∀ k ∈ x2.1.weights Try.prog 29, k ≤ reachBytes := fun k hk => wt k (by rw [DataW.weights, Try.underlying54]; simp [DataW.weightsEach, hk])
    obtain ⟨x, L, e0, r0, m0, u0⟩ := open_node_cells h0 w0
    obtain ⟨s, hs, e1⟩ := open_text_cells h1 w1
    obtain ⟨y, R, e2, r2, m2, u2⟩ := open_node_cells h2 w2
    simp at e0 e1 e2
    obtain ⟨rfl, rfl, rfl⟩ := e0
    subst e1
    obtain ⟨rfl, rfl, rfl⟩ := e2
    refine ⟨x, y, L, R, s, rfl, r0, r2, m0, m2, hs, ?_⟩
    simp only [Rows.uptoBulk, Rows.uptoBulkAll, List.map_cons, List.map_nil]
    omega

end
end Go.Proofs.Ytajkoeodabmgeaa
