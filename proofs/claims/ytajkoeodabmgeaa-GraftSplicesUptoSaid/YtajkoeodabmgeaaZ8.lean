import Derived.Test.YtajkoeodabmgeaaRows
import Derived.ProofKit
import Derived.Carry
import Derived.Test.YtajkoeodabmgeaaZ7
import Derived.Deep.Slices
import Derived.SizedLaws
import Derived.OpenShut

section
namespace Go.Proofs.Ytajkoeodabmgeaa
open Go.ChangeShapes Go.WideShapes Go.ChangeAt Go.RowKit

theorem Try.own : ownKnob Try.prog.godebug = none := by kernel_rfl
theorem Try.laidOut : laidOutB Try.prog = true := by kernel_rfl

/-- Arguments of which nothing has turned read as they did. -/
theorem trodAll_below {H : Type} {enc : TypeId × Value → H} {W W' : World} (hb : Below W.heap.size W W') : ∀ (ts : List TypeId) (vs : List Value) (ds : List (DataW H)) (ps : List MemPlace),
    (∀ t ∈ ts, (Try.prog.readableRec t && decide (t < Try.prog.types.size)) = true) → DataW.TrodAll enc Try.prog W 0 (fun _ => true) true ts vs ds ps → (∀ x ∈ ps, x.block < W.heap.size) →
    DataW.TrodAll enc Try.prog W' 0 (fun b => decide (b < W.heap.size)) true ts vs ds ps
  | [], vs, ds, ps, _, h, _ => by
    obtain ⟨rfl, rfl, rfl⟩ := trodAll_nil h
    exact trodAll_mk0
  | t :: ts, vs, ds, ps, hr, h, hlt => by
    obtain ⟨v, vs', d, ds', p, p', rfl, rfl, rfl, h1, h2⟩ := trodAll_cons h
    have ht := hr t (List.mem_cons_self ..)
    simp only [Bool.and_eq_true, decide_eq_true_eq] at ht
    exact ⟨p, p', Below.trod Try.laidOut ht.1 ht.2 h1 hb (fun x hx => hlt x (List.mem_append_left _ hx)),
      trodAll_below hb ts vs' ds' p' (fun t' h' => hr t' (List.mem_cons_of_mem _ h')) h2 (fun x hx => hlt x (List.mem_append_right _ hx)), rfl⟩

/-- What a law's row asks behind the call: it answered true; nothing of what was there has turned. -/
theorem law_post {H : Type} {enc : TypeId × Value → H} (f : Func) (s : ChangeSpec) {W W' : World} {args : Array Value} {ds gs : List (DataW H)} {before : List MemPlace}
    (hW : DataW.Whole enc Try.prog f.params.toList s.vars false W args.toList ds gs before) (hsv : s.vars = []) (hfn : s.fn H ds = { results := [.lit (.bool true)], args := ds }) (hrt : f.resultTypes = #[4])
    (hr : (f.params.toList.all fun t => Try.prog.readableRec t && decide (t < Try.prog.types.size)) = true) (hb : Below W.heap.size W W') :
    s.post enc Try.prog f false true false false W args (.bool true) W' := by
  have hW' := hW
  obtain ⟨p, q, hA, hV, rfl, hfz, hnd⟩ := hW
  have hlt : ∀ x ∈ p ++ q, x.block < W.heap.size := fun x hx => by simpa using hW'.lt x hx
  rw [hsv] at hV
  obtain ⟨rfl, rfl⟩ := trodVars_none hV
  have hf2 : s.fn H (ds ++ []) = { results := [.lit (.bool true)], args := ds } := by rw [List.append_nil]; exact hfn
  refine ⟨ds, [], p ++ [], [], p, [], hW', ?_, ?_, ?_, ?_, fun h => by cases h⟩
  · rw [hf2, hrt]
    exact trodAll_mk1 (shut_bool Try.underlying4 true)
  · rw [hf2]
    exact trodAll_below hb _ _ _ _ (fun t ht => List.all_eq_true.1 hr t ht) hA (fun x hx => hlt x (by simpa using hx))
  · rw [hf2, hsv]; rfl
  · exact hb.frame _

end Go.Proofs.Ytajkoeodabmgeaa
end

section
namespace Go.Proofs.Ytajkoeodabmgeaa
open Go.ChangeShapes Go.WideShapes Go.ChangeAt Go.RowKit Go.Deep

theorem chunk_list {α : Type} (f : α → List Value) (size : Nat) (Q : α → Prop) (hf : ∀ a, Q a → (f a).length = size) : ∀ (n : Nat) (xs : List Value), xs.length = n * size →
    (∀ i, i < n → ∃ a, Q a ∧ (xs.drop (i * size)).take size = f a) → ∃ l : List α, l.length = n ∧ l.flatMap f = xs ∧ ∀ a ∈ l, Q a
  | 0, xs, hl, _ => ⟨[], rfl, (List.eq_nil_of_length_eq_zero (by simpa using hl)).symm, fun a ha => by simp at ha⟩
  | n + 1, xs, hl, h => by
    obtain ⟨a, hq, ha⟩ := h 0 (by omega)
    obtain ⟨l, hl1, hl2, hl3⟩ := chunk_list f size Q hf n (xs.drop size) (by rw [List.length_drop, hl, Nat.succ_mul]; omega) (fun i hi => by
      obtain ⟨a, hq, ha⟩ := h (i + 1) (by omega)
      refine ⟨a, hq, ?_⟩
      rw [List.drop_drop, ← ha, Nat.succ_mul, Nat.add_comm])
    refine ⟨a :: l, by simp [hl1], ?_, ?_⟩
    · rw [List.flatMap_cons, hl2, ← ha]
      simp
    · intro b hb
      rcases List.mem_cons.1 hb with rfl | hb
      · exact hq
      · exact hl3 b hb

theorem weightsAll_mem {H : Type} {P : Program} {e : TypeId} : ∀ {l : List (DataW H)} {d : DataW H}, d ∈ l → ∀ n ∈ d.weights P e, n ∈ DataW.weightsAll P e l
  | [], _, h, _, _ => by simp at h
  | d0 :: l, d, h, n, hn => by
    simp only [DataW.weightsAll, List.mem_append]
    rcases List.mem_cons.1 h with rfl | h
    · exact .inl hn
    · exact .inr (weightsAll_mem h n hn)

theorem sum_same (size : Nat) : ∀ l : List Nat, (l.map (fun _ => size)).sum = l.length * size
  | [] => by simp
  | a :: l => by simp only [List.map_cons, List.sum_cons, List.length_cons, sum_same size l, Nat.succ_mul]; omega

section
variable {H : Type} {enc : TypeId × Value → H} {W : World}

theorem open_rd {t e : TypeId} {size fuel : Nat} {cs : List Value} {x : DataW H × List MemPlace} (ht : Try.prog.underlying t = some (.slice e)) (hc : Try.prog.cellsOf e = size) (hs0 : 0 < size)
    (h : DataW.trod enc Try.prog W 0 (fun _ => true) true fuel t cs = some x) (wt : ∀ n ∈ x.1.weights Try.prog t, n ≤ reachBytes) :
    ∃ A n c xs, cs = [.slice A n c] ∧ n ≤ c ∧ c * Try.prog.bytesOf e ≤ reachBytes ∧ Rd W size A n xs ∧
      ∀ i, i < n → ∃ cs' m y, (xs.drop (i * size)).take size = cs' ∧ cs'.length = size ∧ DataW.trod enc Try.prog W 0 (fun _ => true) true m e cs' = some y ∧ ∀ k ∈ y.1.weights Try.prog e, k ≤ reachBytes := by
  rcases open_slice ht h with ⟨rfl, rfl⟩ | ⟨a, len, cap, m, n, D, Pl, rfl, _, hl, _, hmm, rfl, hx⟩
  · exact ⟨none, 0, 0, [], rfl, Nat.le_refl _, by simp, ⟨by simp, fun h => absurd h (by omega)⟩, fun i hi => absurd hi (by omega)⟩
  · simp only [if_true] at hmm
    subst hmm
    rw [hc] at hx
    have hC : ∃ C : Nat → List Value, ∀ i, i < m → W.cells? 0 (a.add (i * size)) size = some (C i) ∧ DataW.trod enc Try.prog W 0 (fun _ => true) true n e (C i) = some (D i, Pl i) :=
      ⟨fun i => if h : i < m then Classical.choose (hx i h) else [], fun i hi => by simp only [dif_pos hi]; exact Classical.choose_spec (hx i hi)⟩
    obtain ⟨C, hC⟩ := hC
    have hCl : ∀ i, i < m → (C i).length = size := fun i hi => (World.cells?_some (hC i hi).1).2.1
    have hCc : ∀ i, i < m → ∀ r, r < size → W.cell? ((a.add (i * size)).add r) = (C i)[r]? := fun i hi => (World.cells?_some (hC i hi).1).2.2
    have hget : ∀ i, i < len → ∀ r, r < size → ((List.range len).flatMap C)[i * size + r]? = (C i)[r]? := fun i hi r hr => by
      have := flat_get C size (List.range len) (fun j hj => hCl j (by have := List.mem_range.1 hj; omega)) i (by simpa using hi) r hr
      simpa using this
    have hlen : ((List.range len).flatMap C).length = len * size := by
      rw [List.length_flatMap, List.map_congr_left (g := fun _ => size) (fun j hj => hCl j (by have := List.mem_range.1 hj; omega))]
      rw [sum_same, List.length_range]
    refine ⟨some a, len, m, (List.range len).flatMap C, rfl, hl, ?_, ⟨hlen, fun h0 => ?_⟩, fun i hi => ?_⟩
    · refine wt _ ?_
      simp only [DataW.weights, ht, List.mem_cons]
      left
      simp only [List.length_map, List.length_range]
      rw [show len + (m - len) = m by omega]
    · have hspot : a.spot = none := by
        have h1 := hCc 0 (by omega) 0 hs0
        rw [List.getElem?_eq_getElem (by rw [hCl 0 (by omega)]; exact hs0)] at h1
        cases hsp : a.spot with
        | none => rfl
        | some s =>
          have : W.cell? a = none := by simp only [World.cell?, hsp, Option.isSome_some, if_true]; split <;> rfl
          simp [Addr.add, this] at h1
      obtain ⟨b, o, s⟩ := a
      simp only at hspot
      subst hspot
      refine ⟨b, o, rfl, fun j u hu => ?_⟩
      have hj : j < len * size := by rw [← hlen]; exact (List.getElem?_eq_some_iff.1 hu).1
      have hd : j / size < len := (Nat.div_lt_iff_lt_mul hs0).2 hj
      have hr : j % size < size := Nat.mod_lt _ hs0
      have hje : j = j / size * size + j % size := by rw [Nat.mul_comm]; exact (Nat.div_add_mod j size).symm
      rw [hje, hget _ hd _ hr] at hu
      have := hCc (j / size) (by omega) (j % size) hr
      rw [Addr.add_mid, Addr.add_mid, Nat.add_assoc, ← hje, hu] at this
      exact this
    · refine ⟨C i, n, (D i, Pl i), ?_, hCl i (by omega), (hC i (by omega)).2, fun k hk => wt k ?_⟩
      · apply List.ext_getElem?
        intro r
        by_cases hr : r < size
        · rw [List.getElem?_take, if_pos hr, List.getElem?_drop]
          exact hget i hi r hr
        · rw [List.getElem?_take, if_neg hr, List.getElem?_eq_none (by rw [hCl i (by omega)]; omega)]
      · simp only [DataW.weights, ht, List.mem_cons, List.mem_append]
        right; left
        exact weightsAll_mem (List.mem_map.2 ⟨i, List.mem_range.2 hi, rfl⟩) k hk

end
end Go.Proofs.Ytajkoeodabmgeaa
end

section
namespace Go.Proofs.Ytajkoeodabmgeaa
open Go.ChangeShapes Go.WideShapes Go.ChangeAt Go.RowKit Go.Deep
set_option maxRecDepth 100000

theorem list1 {α : Type} {l : List α} (h : l.length = 1) : ∃ a, l = [a] := by
  match l, h with
  | [a], _ => exact ⟨a, rfl⟩
theorem list2 {α : Type} {l : List α} (h : l.length = 2) : ∃ a b, l = [a, b] := by
  match l, h with
  | [a, b], _ => exact ⟨a, b, rfl⟩
theorem list3 {α : Type} {l : List α} (h : l.length = 3) : ∃ a b c, l = [a, b, c] := by
  match l, h with
  | [a, b, c], _ => exact ⟨a, b, c, rfl⟩

theorem cells5 : Try.prog.cellsOf 5 = 1 := by kernel_rfl
theorem cells3 : Try.prog.cellsOf 3 = 1 := by kernel_rfl
theorem cells9 : Try.prog.cellsOf 9 = 1 := by kernel_rfl
theorem cells24 : Try.prog.cellsOf 24 = 2 := by kernel_rfl
theorem cells25 : Try.prog.cellsOf 25 = 1 := by kernel_rfl
theorem cells26 : Try.prog.cellsOf 26 = 1 := by kernel_rfl
theorem cells27 : Try.prog.cellsOf 27 = 1 := by kernel_rfl
theorem cells29 : Try.prog.cellsOf 29 = 3 := by kernel_rfl
theorem cells31 : Try.prog.cellsOf 31 = 2 := by kernel_rfl
theorem cells81 : Try.prog.cellsOf 81 = 1 := by kernel_rfl
theorem cells83 : Try.prog.cellsOf 83 = 32 := by kernel_rfl
theorem cells85 : Try.prog.cellsOf 85 = 33 := by kernel_rfl
theorem bytes31 : Try.prog.bytesOf 31 = 32 := by kernel_rfl
theorem bytes9 : Try.prog.bytesOf 9 = 16 := by kernel_rfl
theorem bytes85 : Try.prog.bytesOf 85 = 36 := by kernel_rfl

section
variable {H : Type} {enc : TypeId × Value → H} {W : World}

theorem open_pair_cells {m : Nat} {cs : List Value} {y : DataW H × List MemPlace} (h : DataW.trod enc Try.prog W 0 (fun _ => true) true m 31 cs = some y) (wt : ∀ k ∈ y.1.weights Try.prog 31, k ≤ reachBytes) :
    ∃ p : PairD, (p.k.size ≤ 140737488355328 ∧ p.v.size ≤ 140737488355328) ∧ cs = p.cells := by
  obtain ⟨xs, n, _, rfl, hl, hxl, hf⟩ := DataW.trod_struct Try.underlying31 h
  rw [cells31] at hl
  obtain ⟨a, b, rfl⟩ := list2 hl
  obtain ⟨x0, x1, rfl⟩ := list2 (show xs.length = 2 from hxl)
  have h0 : DataW.trod enc Try.prog W 0 (fun _ => true) true n 9 (([a, b].drop 0).take (Try.prog.cellsOf 9)) = some x0 := hf 0 _ rfl
  have h1 : DataW.trod enc Try.prog W 0 (fun _ => true) true n 9 (([a, b].drop 1).take (Try.prog.cellsOf 9)) = some x1 := hf 1 _ rfl
  rw [cells9] at h0 h1
  obtain ⟨s, e0, rfl, _⟩ := DataW.trod_string Try.underlying9 h0
  obtain ⟨t, e1, rfl, _⟩ := DataW.trod_string Try.underlying9 h1
  simp at e0 e1
  subst e0 e1
  have w0 := wt s.data.toList.length (by simp [DataW.weights, Try.underlying31, DataW.weightsEach])
  have w1 := wt t.data.toList.length (by simp [DataW.weights, Try.underlying31, DataW.weightsEach])
  have l0 : s.data.toList.length = s.size := by simp
  have l1 : t.data.toList.length = t.size := by simp
  rw [l0] at w0
  rw [l1] at w1
  unfold reachBytes at w0 w1
  exact ⟨⟨s, t⟩, ⟨by simp only; omega, by simp only; omega⟩, rfl⟩

theorem open_text_cells {m : Nat} {cs : List Value} {y : DataW H × List MemPlace} (h : DataW.trod enc Try.prog W 0 (fun _ => true) true m 9 cs = some y) (wt : ∀ k ∈ y.1.weights Try.prog 9, k ≤ reachBytes) :
    ∃ s : ByteArray, s.size ≤ 140737488355328 ∧ cs = [.string s] := by
  obtain ⟨s, rfl, rfl, _⟩ := DataW.trod_string Try.underlying9 h
  have w0 := wt s.data.toList.length (by simp [DataW.weights])
  have l0 : s.data.toList.length = s.size := by simp
  rw [l0] at w0
  unfold reachBytes at w0
  exact ⟨s, by omega, rfl⟩

theorem ints_of {xs : List Value} : ∀ (n : Nat), xs.length = n → (∀ i, i < n → ∃ d : Int, (xs.drop i).take 1 = [.int .u8 d]) → ∃ ds : List Int, ds.length = n ∧ xs = ds.map (.int .u8) := by
  intro n hl h
  obtain ⟨l, h1, h2, _⟩ := chunk_list (fun d : Int => [Value.int .u8 d]) 1 (fun _ => True) (fun _ _ => rfl) n xs (by simpa using hl) (fun i hi => by
    obtain ⟨d, hd⟩ := h i hi
    exact ⟨d, trivial, by simpa using hd⟩)
  refine ⟨l, h1, ?_⟩
  rw [← h2]
  clear h2 h1 h hl
  induction l with
  | nil => rfl
  | cons a l ih => simp [ih]

theorem open_kid_cells {m : Nat} {cs : List Value} {y : DataW H × List MemPlace} (h : DataW.trod enc Try.prog W 0 (fun _ => true) true m 85 cs = some y) :
    ∃ k : KidD, k.sum.length = 32 ∧ cs = k.cells := by
  obtain ⟨xs, n, _, rfl, hl, hxl, hf⟩ := DataW.trod_struct Try.underlying85 h
  rw [cells85] at hl
  obtain ⟨x0, x1, rfl⟩ := list2 (show xs.length = 2 from hxl)
  have h0 : DataW.trod enc Try.prog W 0 (fun _ => true) true n 81 ((cs.drop 0).take (Try.prog.cellsOf 81)) = some x0 := hf 0 _ rfl
  have h1 : DataW.trod enc Try.prog W 0 (fun _ => true) true n 83 ((cs.drop 1).take (Try.prog.cellsOf 83)) = some x1 := hf 1 _ rfl
  rw [cells81] at h0
  rw [cells83] at h1
  obtain ⟨pg, e0, _, _⟩ := DataW.trod_int Try.underlying81 h0
  obtain ⟨zs, m', _, _, hl1, hzl, hz⟩ := DataW.trod_array Try.underlying83 h1
  obtain ⟨ds, hd1, hd2⟩ := ints_of (xs := (cs.drop 1).take 32) 32 (by rw [List.length_take, List.length_drop, hl]; rfl) (fun i hi => by
    have := hz i hi
    rw [cells5, Nat.mul_one, List.getElem?_eq_getElem (by omega)] at this
    obtain ⟨d, e, _, _⟩ := DataW.trod_int (k := .u8) (by kernel_rfl) this
    exact ⟨d, e⟩)
  refine ⟨⟨pg, ds⟩, hd1, ?_⟩
  match cs, hl, e0, hd2 with
  | c :: cs, hl, e0, hd2 =>
    simp at e0
    subst e0
    rw [List.drop_one, List.tail_cons, List.take_of_length_le (by simp at hl; omega)] at hd2
    rw [hd2]; rfl

/-- A node that came in. -/
theorem open_node {r : Reach} {b0 : Nat} {v : Value} {d : DataW H} {ps : List MemPlace} (hv : Value.okWide Try.prog W r b0 29 v) (h : DataW.Trod enc Try.prog W 0 (fun _ => true) true 29 v d ps) (wt : ∀ k ∈ d.weights Try.prog 29, k ≤ reachBytes) :
    ∃ A0 c0 A1 c1 A2 c2 nd, v = vN A0 c0 A1 c1 A2 c2 nd ∧ RdN W A0 c0 A1 c1 A2 c2 nd ∧ Room 100 nd := by
  obtain ⟨cs, rfl, hsz⟩ := okWide_struct Try.underlying29 hv
  obtain ⟨fuel, hh⟩ := h
  obtain ⟨xs, n, _, hx, hl, hxl, hf⟩ := DataW.trod_struct Try.underlying29 hh
  obtain ⟨l⟩ := cs
  rw [cells29] at hl
  obtain ⟨v0, v1, v2, hl3⟩ := list3 hl
  have hl3 : l = [v0, v1, v2] := hl3
  subst hl3
  obtain ⟨x0, x1, x2, rfl⟩ := list3 (show xs.length = 3 from hxl)
  simp only [Prod.mk.injEq] at hx
  obtain ⟨rfl, _⟩ := hx
  have h0 : DataW.trod enc Try.prog W 0 (fun _ => true) true n 25 (([v0, v1, v2].drop 0).take (Try.prog.cellsOf 25)) = some x0 := hf 0 _ rfl
  have h1 : DataW.trod enc Try.prog W 0 (fun _ => true) true n 26 (([v0, v1, v2].drop 1).take (Try.prog.cellsOf 26)) = some x1 := hf 1 _ rfl
  have h2 : DataW.trod enc Try.prog W 0 (fun _ => true) true n 27 (([v0, v1, v2].drop 2).take (Try.prog.cellsOf 27)) = some x2 := hf 2 _ rfl
  rw [cells25] at h0
  rw [cells26] at h1
  rw [cells27] at h2
  have w0 : ∀ k ∈ x0.1.weights Try.prog 25, k ≤ reachBytes := fun k hk => wt k (by simp [DataW.weights, Try.underlying29, DataW.weightsEach, hk])
  have w1 : ∀ k ∈ x1.1.weights Try.prog 26, k ≤ reachBytes := fun k hk => wt k (by simp [DataW.weights, Try.underlying29, DataW.weightsEach, hk])
  have w2 : ∀ k ∈ x2.1.weights Try.prog 27, k ≤ reachBytes := fun k hk => wt k (by simp [DataW.weights, Try.underlying29, DataW.weightsEach, hk])
  obtain ⟨A0, n0, c0, xs0, e0, nc0, b0, r0, g0⟩ := open_rd Try.underlying25 cells31 (by decide) h0 w0
  obtain ⟨A1, n1, c1, xs1, e1, nc1, b1, r1, g1⟩ := open_rd Try.underlying26 cells9 (by decide) h1 w1
  obtain ⟨A2, n2, c2, xs2, e2, nc2, b2, r2, g2⟩ := open_rd Try.underlying27 cells85 (by decide) h2 w2
  simp at e0 e1 e2
  subst e0 e1 e2
  rw [bytes31] at b0
  rw [bytes9] at b1
  rw [bytes85] at b2
  unfold reachBytes at b0 b1 b2
  obtain ⟨lp, hp1, hp2, hp3⟩ := chunk_list PairD.cells 2 (fun p => p.k.size ≤ 140737488355328 ∧ p.v.size ≤ 140737488355328) (fun _ _ => rfl) n0 xs0 r0.1 (fun i hi => by
    obtain ⟨cs', m, y, e, _, ht, hw⟩ := g0 i hi
    obtain ⟨p, hq, hc⟩ := open_pair_cells ht hw
    exact ⟨p, hq, e.trans hc⟩)
  obtain ⟨ls, hs1, hs2, hs3⟩ := chunk_list (fun s : ByteArray => [Value.string s]) 1 (fun s => s.size ≤ 140737488355328) (fun _ _ => rfl) n1 xs1 r1.1 (fun i hi => by
    obtain ⟨cs', m, y, e, _, ht, hw⟩ := g1 i hi
    obtain ⟨p, hq, hc⟩ := open_text_cells ht hw
    exact ⟨p, hq, e.trans hc⟩)
  obtain ⟨lk, hk1, hk2, hk3⟩ := chunk_list KidD.cells 33 (fun k => k.sum.length = 32) (fun k hk => by simp [KidD.cells, hk]) n2 xs2 r2.1 (fun i hi => by
    obtain ⟨cs', m, y, e, _, ht, hw⟩ := g2 i hi
    obtain ⟨p, hq, hc⟩ := open_kid_cells ht
    exact ⟨p, hq, e.trans hc⟩)
  have hs2' : scells ls = xs1 := by rw [← hs2]; clear hs1 hs2 hs3; unfold scells; induction ls with
    | nil => rfl
    | cons a l ih => simp [ih]
  subst hp1 hs1 hk1
  refine ⟨A0, c0, A1, c1, A2, c2, ⟨lp, ls, lk⟩, rfl, ?_, ?_⟩
  · exact {
      pairs := by rw [show pcells lp = xs0 from hp2]; exact r0
      seps := by rw [hs2']; exact r1
      kids := by rw [show kcells lk = xs2 from hk2]; exact r2
      hp := by simp only; omega
      hs := by simp only; omega
      hk := by simp only; omega
      hcp := nc0
      hcs := nc1
      hck := nc2
      pk := hp3
      sk := hs3
      kk := hk3 }
  · exact ⟨by simp only; omega, by simp only; omega, by simp only; omega⟩

/-- A frame that came in. -/
theorem open_frame {r : Reach} {b0 : Nat} {v : Value} {d : DataW H} {ps : List MemPlace} (hv : Value.okWide Try.prog W r b0 24 v) (h : DataW.Trod enc Try.prog W 0 (fun _ => true) true 24 v d ps) :
    ∃ pg wd, v = vF pg wd := by
  obtain ⟨cs, rfl, hsz⟩ := okWide_struct Try.underlying24 hv
  obtain ⟨fuel, hh⟩ := h
  obtain ⟨xs, n, _, hx, hl, hxl, hf⟩ := DataW.trod_struct Try.underlying24 hh
  obtain ⟨l⟩ := cs
  rw [cells24] at hl
  obtain ⟨v0, v1, hl2⟩ := list2 hl
  have hl2 : l = [v0, v1] := hl2
  subst hl2
  obtain ⟨x0, x1, rfl⟩ := list2 (show xs.length = 2 from hxl)
  have h0 : DataW.trod enc Try.prog W 0 (fun _ => true) true n 3 (([v0, v1].drop 0).take (Try.prog.cellsOf 3)) = some x0 := hf 0 _ rfl
  have h1 : DataW.trod enc Try.prog W 0 (fun _ => true) true n 3 (([v0, v1].drop 1).take (Try.prog.cellsOf 3)) = some x1 := hf 1 _ rfl
  rw [cells3] at h0 h1
  obtain ⟨pg, e0, _, _⟩ := DataW.trod_int Try.underlying3 h0
  obtain ⟨wd, e1, _, _⟩ := DataW.trod_int Try.underlying3 h1
  simp at e0 e1
  subst e0 e1
  exact ⟨pg, wd, rfl⟩

end
end Go.Proofs.Ytajkoeodabmgeaa
end

section
namespace Go.Proofs.Ytajkoeodabmgeaa
open Go.ChangeShapes Go.WideShapes Go.ChangeAt Go.RowKit
set_option maxRecDepth 100000

theorem weight_at {H : Type} {P : Program} {ts : List TypeId} {ds : List (DataW H)} (hsz : (DataW.weightsEach P ts ds).all (· ≤ reachBytes) = true) {j : Nat} {t : TypeId} {d : DataW H} (ht : ts[j]? = some t) (hd : ds[j]? = some d) : ∀ k ∈ d.weights P t, k ≤ reachBytes := fun k hk => by
  have := List.all_eq_true.1 hsz k (DataW.weights_mem_each ht hd k hk)
  simpa using this

/-- A pair that came in. -/
theorem open_pair {H : Type} {enc : TypeId × Value → H} {W : World} {r : Reach} {b0 : Nat} {v : Value} {d : DataW H} {ps : List MemPlace} (hv : Value.okWide Try.prog W r b0 31 v) (h : DataW.Trod enc Try.prog W 0 (fun _ => true) true 31 v d ps) (wt : ∀ k ∈ d.weights Try.prog 31, k ≤ reachBytes) :
    ∃ p : PairD, v = vP p ∧ p.k.size ≤ 140737488355328 ∧ p.v.size ≤ 140737488355328 := by
  obtain ⟨cs, rfl, hsz⟩ := okWide_struct Try.underlying31 hv
  obtain ⟨fuel, hh⟩ := h
  obtain ⟨p, hp, e⟩ := open_pair_cells hh wt
  obtain ⟨l⟩ := cs
  simp [PairD.cells, Value.cells] at e
  subst e
  exact ⟨p, rfl, hp⟩

end Go.Proofs.Ytajkoeodabmgeaa
end
