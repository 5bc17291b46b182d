import Derived.Test.YtajkoeodabmgeaaR0
import Derived.Test.YtajkoeodabmgeaaM1
import Derived.Deep.Slices
import Derived.SizedLaws
import Derived.OpenShut
namespace Go.Proofs.Ytajkoeodabmgeaa
open Go.ChangeShapes Go.WideShapes Go.ChangeAt Go.RowKit Go.Deep

theorem chunk_list {α : Type} (f : α → List Value) (size : Nat) (Q : α → Prop) (hf : ∀ a, Q a → (f a).length = size) : ∀ (n : Nat) (xs : List Value), xs.length = n * size →
    (∀ i, i < n → ∃ a, Q a ∧ (xs.drop (i * size)).take size = f a) → ∃ l : List α, l.length = n ∧ l.flatMap f = xs ∧ ∀ a ∈ l, Q a
  | 0, xs, hl, _ => ⟨[], rfl, (List.eq_nil_of_length_eq_zero (by simpa using hl)).symm, fun a ha => by simp at ha⟩
  | n + 1, xs, hl, h => by
    obtain ⟨a, hq, ha⟩ := h 0 (by omega)
    obtain ⟨l, hl1, hl2, hl3⟩ := chunk_list f size Q hf n (xs.drop size) (by rw [List.length_drop, hl, Nat.succ_mul]; omega) (fun i hi => by
      obtain ⟨a, hq, ha⟩ := h (i + 1) (by omega)
      refine ⟨a, hq, ?_⟩
      rw [List.drop_drop, ← ha, Nat.succ_mul, Nat.add_comm])
    refine ⟨a :: l, by simp [hl1], ?_, ?_⟩
    · rw [List.flatMap_cons, hl2, ← ha]
      simp
    · intro b hb
      rcases List.mem_cons.1 hb with rfl | hb
      · exact hq
      · exact hl3 b hb

theorem weightsAll_mem {H : Type} {P : Program} {e : TypeId} : ∀ {l : List (DataW H)} {d : DataW H}, d ∈ l → ∀ n ∈ d.weights P e, n ∈ DataW.weightsAll P e l
  | [], _, h, _, _ => by simp at h
  | d0 :: l, d, h, n, hn => by
    simp only [DataW.weightsAll, List.mem_append]
    rcases List.mem_cons.1 h with rfl | h
    · exact .inl hn
    · exact .inr (weightsAll_mem h n hn)

theorem sum_same (size : Nat) : ∀ l : List Nat, (l.map (fun _ => size)).sum = l.length * size
  | [] => by simp
  | a :: l => by simp only [List.map_cons, List.sum_cons, List.length_cons, sum_same size l, Nat.succ_mul]; omega

section
variable {H : Type} {enc : TypeId × Value → H} {W : World}

theorem open_rd {t e : TypeId} {size fuel : Nat} {cs : List Value} {x : DataW H × List MemPlace} (ht : Try.prog.underlying t = some (.slice e)) (hc : Try.prog.cellsOf e = size) (hs0 : 0 < size)
    (h : DataW.trod enc Try.prog W 0 (fun _ => true) true fuel t cs = some x) (wt : ∀ n ∈ x.1.weights Try.prog t, n ≤ reachBytes) :
    ∃ A n c xs, cs = [.slice A n c] ∧ n ≤ c ∧ c * Try.prog.bytesOf e ≤ reachBytes ∧ Rd W size A n xs ∧
      ∀ i, i < n → ∃ cs' m y, (xs.drop (i * size)).take size = cs' ∧ cs'.length = size ∧ DataW.trod enc Try.prog W 0 (fun _ => true) true m e cs' = some y ∧ ∀ k ∈ y.1.weights Try.prog e, k ≤ reachBytes := by
  rcases open_slice ht h with ⟨rfl, rfl⟩ | ⟨a, len, cap, m, n, D, Pl, rfl, _, hl, _, hmm, rfl, hx⟩
  · exact ⟨none, 0, 0, [], rfl, Nat.le_refl _, by simp, ⟨by simp, fun h => absurd h (by omega)⟩, fun i hi => absurd hi (by omega)⟩
  · simp only [if_true] at hmm
    subst hmm
    rw [hc] at hx
    have hC : ∃ C : Nat → List Value, ∀ i, i < m → W.cells? 0 (a.add (i * size)) size = some (C i) ∧ DataW.trod enc Try.prog W 0 (fun _ => true) true n e (C i) = some (D i, Pl i) :=
      ⟨fun i => if h : i < m then Classical.choose (hx i h) else [], fun i hi => by simp only [dif_pos hi]; exact Classical.choose_spec (hx i hi)⟩
    obtain ⟨C, hC⟩ := hC
    have hCl : ∀ i, i < m → (C i).length = size := fun i hi => (World.cells?_some (hC i hi).1).2.1
    have hCc : ∀ i, i < m → ∀ r, r < size → W.cell? ((a.add (i * size)).add r) = (C i)[r]? := fun i hi => (World.cells?_some (hC i hi).1).2.2
    have hget : ∀ i, i < len → ∀ r, r < size → ((List.range len).flatMap C)[i * size + r]? = (C i)[r]? := fun i hi r hr => by
      have := flat_get C size (List.range len) (fun j hj => hCl j (by have := List.mem_range.1 hj; omega)) i (by simpa using hi) r hr
      simpa using this
    have hlen : ((List.range len).flatMap C).length = len * size := by
      rw [List.length_flatMap, List.map_congr_left (g := fun _ => size) (fun j hj => hCl j (by have := List.mem_range.1 hj; omega))]
      rw [sum_same, List.length_range]
    refine ⟨some a, len, m, (List.range len).flatMap C, rfl, hl, ?_, ⟨hlen, fun h0 => ?_⟩, fun i hi => ?_⟩
    · refine wt _ ?_
      simp only [DataW.weights, ht, List.mem_cons]
      left
      simp only [List.length_map, List.length_range]
      rw [show len + (m - len) = m by omega]
    · have hspot : a.spot = none := by
        have h1 := hCc 0 (by omega) 0 hs0
        rw [List.getElem?_eq_getElem (by rw [hCl 0 (by omega)]; exact hs0)] at h1
        cases hsp : a.spot with
        | none => rfl
        | some s =>
          have : W.cell? a = none := by simp only [World.cell?, hsp, Option.isSome_some, if_true]; split <;> rfl
          simp [Addr.add, this] at h1
      obtain ⟨b, o, s⟩ := a
      simp only at hspot
      subst hspot
      refine ⟨b, o, rfl, fun j u hu => ?_⟩
      have hj : j < len * size := by rw [← hlen]; exact (List.getElem?_eq_some_iff.1 hu).1
      have hd : j / size < len := (Nat.div_lt_iff_lt_mul hs0).2 hj
      have hr : j % size < size := Nat.mod_lt _ hs0
      have hje : j = j / size * size + j % size := by rw [Nat.mul_comm]; exact (Nat.div_add_mod j size).symm
      rw [hje, hget _ hd _ hr] at hu
      have := hCc (j / size) (by omega) (j % size) hr
      rw [Addr.add_mid, Addr.add_mid, Nat.add_assoc, ← hje, hu] at this
      exact this
    · refine ⟨C i, n, (D i, Pl i), ?_, hCl i (by omega), (hC i (by omega)).2, fun k hk => wt k ?_⟩
      · apply List.ext_getElem?
        intro r
        by_cases hr : r < size
        · rw [List.getElem?_take, if_pos hr, List.getElem?_drop]
          exact hget i hi r hr
        · rw [List.getElem?_take, if_neg hr, List.getElem?_eq_none (by rw [hCl i (by omega)]; omega)]
      · simp only [DataW.weights, ht, List.mem_cons, List.mem_append]
        right; left
        exact weightsAll_mem (List.mem_map.2 ⟨i, List.mem_range.2 hi, rfl⟩) k hk

end
end Go.Proofs.Ytajkoeodabmgeaa
