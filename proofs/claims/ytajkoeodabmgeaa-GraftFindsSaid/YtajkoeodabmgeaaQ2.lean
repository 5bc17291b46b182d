import Derived.Test.YtajkoeodabmgeaaQ1
namespace Go.Proofs.Ytajkoeodabmgeaa
open Go.ChangeShapes Go.WideShapes Go.ChangeAt Go.RowKit Go.Deep
set_option maxRecDepth 100000

theorem list1 {α : Type} {l : List α} (h : l.length = 1) : ∃ a, l = [a] := by
  match l, h with
  | [a], _ => exact ⟨a, rfl⟩
theorem list2 {α : Type} {l : List α} (h : l.length = 2) : ∃ a b, l = [a, b] := by
  match l, h with
  | [a, b], _ => exact ⟨a, b, rfl⟩
theorem list3 {α : Type} {l : List α} (h : l.length = 3) : ∃ a b c, l = [a, b, c] := by
  match l, h with
  | [a, b, c], _ => exact ⟨a, b, c, rfl⟩

theorem cells5 : Try.prog.cellsOf 5 = 1 := by kernel_rfl
theorem cells3 : Try.prog.cellsOf 3 = 1 := by kernel_rfl
theorem cells9 : Try.prog.cellsOf 9 = 1 := by kernel_rfl
theorem cells24 : Try.prog.cellsOf 24 = 2 := by kernel_rfl
theorem cells25 : Try.prog.cellsOf 25 = 1 := by kernel_rfl
theorem cells26 : Try.prog.cellsOf 26 = 1 := by kernel_rfl
theorem cells27 : Try.prog.cellsOf 27 = 1 := by kernel_rfl
theorem cells29 : Try.prog.cellsOf 29 = 3 := by kernel_rfl
theorem cells31 : Try.prog.cellsOf 31 = 2 := by kernel_rfl
theorem cells81 : Try.prog.cellsOf 81 = 1 := by kernel_rfl
theorem cells83 : Try.prog.cellsOf 83 = 32 := by kernel_rfl
theorem cells85 : Try.prog.cellsOf 85 = 33 := by kernel_rfl
theorem bytes31 : Try.prog.bytesOf 31 = 32 := by kernel_rfl
theorem bytes9 : Try.prog.bytesOf 9 = 16 := by kernel_rfl
theorem bytes85 : Try.prog.bytesOf 85 = 36 := by kernel_rfl

section
variable {H : Type} {enc : TypeId × Value → H} {W : World}

theorem open_pair_cells {m : Nat} {cs : List Value} {y : DataW H × List MemPlace} (h : DataW.trod enc Try.prog W 0 (fun _ => true) true m 31 cs = some y) (wt : ∀ k ∈ y.1.weights Try.prog 31, k ≤ reachBytes) :
    ∃ p : PairD, (p.k.size ≤ 140737488355328 ∧ p.v.size ≤ 140737488355328) ∧ cs = p.cells := by
  obtain ⟨xs, n, _, rfl, hl, hxl, hf⟩ := DataW.trod_struct Try.underlying31 h
  rw [cells31] at hl
  obtain ⟨a, b, rfl⟩ := list2 hl
  obtain ⟨x0, x1, rfl⟩ := list2 (show xs.length = 2 from hxl)
  have h0 : DataW.trod enc Try.prog W 0 (fun _ => true) true n 9 (([a, b].drop 0).take (Try.prog.cellsOf 9)) = some x0 := hf 0 _ rfl
  have h1 : DataW.trod enc Try.prog W 0 (fun _ => true) true n 9 (([a, b].drop 1).take (Try.prog.cellsOf 9)) = some x1 := hf 1 _ rfl
  rw [cells9] at h0 h1
  obtain ⟨s, e0, rfl, _⟩ := DataW.trod_string Try.underlying9 h0
  obtain ⟨t, e1, rfl, _⟩ := DataW.trod_string Try.underlying9 h1
  simp at e0 e1
  subst e0 e1
  have w0 := wt s.data.toList.length (by simp [DataW.weights, Try.underlying31, DataW.weightsEach])
  have w1 := wt t.data.toList.length (by simp [DataW.weights, Try.underlying31, DataW.weightsEach])
  have l0 : s.data.toList.length = s.size := by simp
  have l1 : t.data.toList.length = t.size := by simp
  rw [l0] at w0
  rw [l1] at w1
  unfold reachBytes at w0 w1
  exact ⟨⟨s, t⟩, ⟨by simp only; omega, by simp only; omega⟩, rfl⟩

theorem open_text_cells {m : Nat} {cs : List Value} {y : DataW H × List MemPlace} (h : DataW.trod enc Try.prog W 0 (fun _ => true) true m 9 cs = some y) (wt : ∀ k ∈ y.1.weights Try.prog 9, k ≤ reachBytes) :
    ∃ s : ByteArray, s.size ≤ 140737488355328 ∧ cs = [.string s] := by
  obtain ⟨s, rfl, rfl, _⟩ := DataW.trod_string Try.underlying9 h
  have w0 := wt s.data.toList.length (by simp [DataW.weights])
  have l0 : s.data.toList.length = s.size := by simp
  rw [l0] at w0
  unfold reachBytes at w0
  exact ⟨s, by omega, rfl⟩

theorem ints_of {xs : List Value} : ∀ (n : Nat), xs.length = n → (∀ i, i < n → ∃ d : Int, (xs.drop i).take 1 = [.int .u8 d]) → ∃ ds : List Int, ds.length = n ∧ xs = ds.map (.int .u8) := by
  intro n hl h
  obtain ⟨l, h1, h2, _⟩ := chunk_list (fun d : Int => [Value.int .u8 d]) 1 (fun _ => True) (fun _ _ => rfl) n xs (by simpa using hl) (fun i hi => by
    obtain ⟨d, hd⟩ := h i hi
    exact ⟨d, trivial, by simpa using hd⟩)
  refine ⟨l, h1, ?_⟩
  rw [← h2]
  clear h2 h1 h hl
  induction l with
  | nil => rfl
  | cons a l ih => simp [ih]

theorem open_kid_cells {m : Nat} {cs : List Value} {y : DataW H × List MemPlace} (h : DataW.trod enc Try.prog W 0 (fun _ => true) true m 85 cs = some y) :
    ∃ k : KidD, k.sum.length = 32 ∧ cs = k.cells := by
  obtain ⟨xs, n, _, rfl, hl, hxl, hf⟩ := DataW.trod_struct Try.underlying85 h
  rw [cells85] at hl
  obtain ⟨x0, x1, rfl⟩ := list2 (show xs.length = 2 from hxl)
  have h0 : DataW.trod enc Try.prog W 0 (fun _ => true) true n 81 ((cs.drop 0).take (Try.prog.cellsOf 81)) = some x0 := hf 0 _ rfl
  have h1 : DataW.trod enc Try.prog W 0 (fun _ => true) true n 83 ((cs.drop 1).take (Try.prog.cellsOf 83)) = some x1 := hf 1 _ rfl
  rw [cells81] at h0
  rw [cells83] at h1
  obtain ⟨pg, e0, _, _⟩ := DataW.trod_int Try.underlying81 h0
  obtain ⟨zs, m', _, _, hl1, hzl, hz⟩ := DataW.trod_array Try.underlying83 h1
  obtain ⟨ds, hd1, hd2⟩ := ints_of (xs := (cs.drop 1).take 32) 32 (by rw [List.length_take, List.length_drop, hl]; rfl) (fun i hi => by
    have := hz i hi
    rw [cells5, Nat.mul_one, List.getElem?_eq_getElem (by omega)] at this
    obtain ⟨d, e, _, _⟩ := DataW.trod_int (k := .u8) (by kernel_rfl) this
    exact ⟨d, e⟩)
  refine ⟨⟨pg, ds⟩, hd1, ?_⟩
  match cs, hl, e0, hd2 with
  | c :: cs, hl, e0, hd2 =>
    simp at e0
    subst e0
    rw [List.drop_one, List.tail_cons, List.take_of_length_le (by simp at hl; omega)] at hd2
    rw [hd2]; rfl

/-- A node that came in. -/
theorem open_node {r : Reach} {b0 : Nat} {v : Value} {d : DataW H} {ps : List MemPlace} (hv : Value.okWide Try.prog W r b0 29 v) (h : DataW.Trod enc Try.prog W 0 (fun _ => true) true 29 v d ps) (wt : ∀ k ∈ d.weights Try.prog 29, k ≤ reachBytes) :
    ∃ A0 c0 A1 c1 A2 c2 nd, v = vN A0 c0 A1 c1 A2 c2 nd ∧ RdN W A0 c0 A1 c1 A2 c2 nd ∧ Room 100 nd := by
  obtain ⟨cs, rfl, hsz⟩ := okWide_struct Try.underlying29 hv
  obtain ⟨fuel, hh⟩ := h
  obtain ⟨xs, n, _, hx, hl, hxl, hf⟩ := DataW.trod_struct Try.underlying29 hh
  obtain ⟨l⟩ := cs
  rw [cells29] at hl
  obtain ⟨v0, v1, v2, hl3⟩ := list3 hl
  have hl3 : l = [v0, v1, v2] := hl3
  subst hl3
  obtain ⟨x0, x1, x2, rfl⟩ := list3 (show xs.length = 3 from hxl)
  simp only [Prod.mk.injEq] at hx
  obtain ⟨rfl, _⟩ := hx
  have h0 : DataW.trod enc Try.prog W 0 (fun _ => true) true n 25 (([v0, v1, v2].drop 0).take (Try.prog.cellsOf 25)) = some x0 := hf 0 _ rfl
  have h1 : DataW.trod enc Try.prog W 0 (fun _ => true) true n 26 (([v0, v1, v2].drop 1).take (Try.prog.cellsOf 26)) = some x1 := hf 1 _ rfl
  have h2 : DataW.trod enc Try.prog W 0 (fun _ => true) true n 27 (([v0, v1, v2].drop 2).take (Try.prog.cellsOf 27)) = some x2 := hf 2 _ rfl
  rw [cells25] at h0
  rw [cells26] at h1
  rw [cells27] at h2
  have w0 : ∀ k ∈ x0.1.weights Try.prog 25, k ≤ reachBytes := fun k hk => wt k (by simp [DataW.weights, Try.underlying29, DataW.weightsEach, hk])
  have w1 : ∀ k ∈ x1.1.weights Try.prog 26, k ≤ reachBytes := fun k hk => wt k (by simp [DataW.weights, Try.underlying29, DataW.weightsEach, hk])
  have w2 : ∀ k ∈ x2.1.weights Try.prog 27, k ≤ reachBytes := fun k hk => wt k (by simp [DataW.weights, Try.underlying29, DataW.weightsEach, hk])
  obtain ⟨A0, n0, c0, xs0, e0, nc0, b0, r0, g0⟩ := open_rd Try.underlying25 cells31 (by decide) h0 w0
  obtain ⟨A1, n1, c1, xs1, e1, nc1, b1, r1, g1⟩ := open_rd Try.underlying26 cells9 (by decide) h1 w1
  obtain ⟨A2, n2, c2, xs2, e2, nc2, b2, r2, g2⟩ := open_rd Try.underlying27 cells85 (by decide) h2 w2
  simp at e0 e1 e2
  subst e0 e1 e2
  rw [bytes31] at b0
  rw [bytes9] at b1
  rw [bytes85] at b2
  unfold reachBytes at b0 b1 b2
  obtain ⟨lp, hp1, hp2, hp3⟩ := chunk_list PairD.cells 2 (fun p => p.k.size ≤ 140737488355328 ∧ p.v.size ≤ 140737488355328) (fun _ _ => rfl) n0 xs0 r0.1 (fun i hi => by
    obtain ⟨cs', m, y, e, _, ht, hw⟩ := g0 i hi
    obtain ⟨p, hq, hc⟩ := open_pair_cells ht hw
    exact ⟨p, hq, e.trans hc⟩)
  obtain ⟨ls, hs1, hs2, hs3⟩ := chunk_list (fun s : ByteArray => [Value.string s]) 1 (fun s => s.size ≤ 140737488355328) (fun _ _ => rfl) n1 xs1 r1.1 (fun i hi => by
    obtain ⟨cs', m, y, e, _, ht, hw⟩ := g1 i hi
    obtain ⟨p, hq, hc⟩ := open_text_cells ht hw
    exact ⟨p, hq, e.trans hc⟩)
  obtain ⟨lk, hk1, hk2, hk3⟩ := chunk_list KidD.cells 33 (fun k => k.sum.length = 32) (fun k hk => by simp [KidD.cells, hk]) n2 xs2 r2.1 (fun i hi => by
    obtain ⟨cs', m, y, e, _, ht, hw⟩ := g2 i hi
    obtain ⟨p, hq, hc⟩ := open_kid_cells ht
    exact ⟨p, hq, e.trans hc⟩)
  have hs2' : scells ls = xs1 := by rw [← hs2]; clear hs1 hs2 hs3; unfold scells; induction ls with
    | nil => rfl
    | cons a l ih => simp [ih]
  subst hp1 hs1 hk1
  refine ⟨A0, c0, A1, c1, A2, c2, ⟨lp, ls, lk⟩, rfl, ?_, ?_⟩
  · exact {
      pairs := by rw [show pcells lp = xs0 from hp2]; exact r0
      seps := by rw [hs2']; exact r1
      kids := by rw [show kcells lk = xs2 from hk2]; exact r2
      hp := by simp only; omega
      hs := by simp only; omega
      hk := by simp only; omega
      hcp := nc0
      hcs := nc1
      hck := nc2
      pk := hp3
      sk := hs3
      kk := hk3 }
  · exact ⟨by simp only; omega, by simp only; omega, by simp only; omega⟩

/-- A frame that came in. -/
theorem open_frame {r : Reach} {b0 : Nat} {v : Value} {d : DataW H} {ps : List MemPlace} (hv : Value.okWide Try.prog W r b0 24 v) (h : DataW.Trod enc Try.prog W 0 (fun _ => true) true 24 v d ps) :
    ∃ pg wd, v = vF pg wd := by
  obtain ⟨cs, rfl, hsz⟩ := okWide_struct Try.underlying24 hv
  obtain ⟨fuel, hh⟩ := h
  obtain ⟨xs, n, _, hx, hl, hxl, hf⟩ := DataW.trod_struct Try.underlying24 hh
  obtain ⟨l⟩ := cs
  rw [cells24] at hl
  obtain ⟨v0, v1, hl2⟩ := list2 hl
  have hl2 : l = [v0, v1] := hl2
  subst hl2
  obtain ⟨x0, x1, rfl⟩ := list2 (show xs.length = 2 from hxl)
  have h0 : DataW.trod enc Try.prog W 0 (fun _ => true) true n 3 (([v0, v1].drop 0).take (Try.prog.cellsOf 3)) = some x0 := hf 0 _ rfl
  have h1 : DataW.trod enc Try.prog W 0 (fun _ => true) true n 3 (([v0, v1].drop 1).take (Try.prog.cellsOf 3)) = some x1 := hf 1 _ rfl
  rw [cells3] at h0 h1
  obtain ⟨pg, e0, _, _⟩ := DataW.trod_int Try.underlying3 h0
  obtain ⟨wd, e1, _, _⟩ := DataW.trod_int Try.underlying3 h1
  simp at e0 e1
  subst e0 e1
  exact ⟨pg, wd, rfl⟩

end
end Go.Proofs.Ytajkoeodabmgeaa
