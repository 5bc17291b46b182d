import Derived.Test.YtajkoeodabmgeaaE2
import Derived.OneCell
namespace Go.Proofs.Ytajkoeodabmgeaa
open Go.RowKit

/-- The blocks outside a set are as they were. -/
structure Kept (S : Nat → Prop) (w w' : World) : Prop where
  os : w'.os = w.os
  tape : w'.tape = w.tape
  output : w'.output = w.output
  size : w.heap.size ≤ w'.heap.size
  block : ∀ k, k < w.heap.size → ¬ S k → w'.heap[k]? = w.heap[k]?

theorem Kept.refl (S : Nat → Prop) (w : World) : Kept S w w := ⟨rfl, rfl, rfl, Nat.le_refl _, fun _ _ _ => rfl⟩
theorem Kept.of_below {S : Nat → Prop} {w w' : World} (h : Below w.heap.size w w') : Kept S w w' := ⟨h.os, h.tape, h.output, h.size, fun k hk _ => h.block k hk⟩
theorem Kept.mono {S T : Nat → Prop} {w w' : World} (h : Kept S w w') (hs : ∀ k, S k → T k) : Kept T w w' := ⟨h.os, h.tape, h.output, h.size, fun k hk ht => h.block k hk fun hs' => ht (hs k hs')⟩
theorem Kept.below {S : Nat → Prop} {w w' : World} (h : Kept S w w') {B : Nat} (hB : B ≤ w.heap.size) (hs : ∀ k, k < B → ¬ S k) : Below B w w' :=
  ⟨h.os, h.tape, h.output, h.size, fun k hk => h.block k (by omega) (hs k hk)⟩
theorem Kept.trans {S : Nat → Prop} {a b c : World} (h : Kept S a b) (k : Kept S b c) : Kept S a c :=
  ⟨k.os.trans h.os, k.tape.trans h.tape, k.output.trans h.output, Nat.le_trans h.size k.size, fun i hi hs => (k.block i (by have := h.size; omega) hs).trans (h.block i hi hs)⟩
theorem Kept.step {S : Nat → Prop} {a b c : World} (h : Kept S a b) (k : Below b.heap.size b c) : Kept S a c := h.trans (.of_below k)
theorem Kept.alloc {S : Nat → Prop} {a b : World} (h : Kept S a b) (o : Obj) : Kept S a (b.alloc o) := h.step ((Below.refl _ _).alloc (Nat.le_refl _) _)
/-- An append onto a row whose block, where it had one, lies in the set or is younger. -/
theorem Kept.grown {S : Nat → Prop} {a b c : World} {row : Option Nat} (h : Kept S a b) (hg : b.grownBy c row) (hr : ∀ k, row = some k → k < a.heap.size → S k) : Kept S a c := by
  obtain ⟨h1, h2, h3, h4, h5⟩ := hg
  refine ⟨h1.trans h.os, h2.trans h.tape, h3.trans h.output, Nat.le_trans h.size h4, fun k hk hs => ?_⟩
  rw [h5 k (by have := h.size; omega) (fun e => hs (hr k e.symm hk))]
  exact h.block k hk hs

theorem own_rd' {w : World} {base : Nat} {e : TypeId} {size n c : Nat} {A : Option Addr} {xs : List Value} (h : w.ownsRow base e size (.slice A n c) n xs) : n ≤ c ∧ Rd w size A n xs := by
  obtain ⟨A', c', hv, h1, h2⟩ := own_rd h
  cases hv
  exact ⟨h1, h2⟩

theorem own_lt {w : World} {base : Nat} {e : TypeId} {size n : Nat} {v : Value} {xs : List Value} (h : w.ownsRow base e size v n xs) : ∀ k, v.ownBlock = some k → k < w.heap.size := fun k hk => (h.lt k hk).2

theorem own_kept {w w' : World} {base : Nat} {e : TypeId} {size n : Nat} {v : Value} {xs : List Value} {S : Nat → Prop} (h : w.ownsRow base e size v n xs) (hb : Kept S w w') (hs : ∀ k, v.ownBlock = some k → ¬ S k) : w'.ownsRow base e size v n xs := by
  obtain ⟨h1, h2⟩ := h
  rcases h2 with h2 | ⟨g, cap, cur, rfl, hg, hh, hrest⟩
  · exact ⟨h1, .inl h2⟩
  · exact ⟨h1, .inr ⟨g, cap, cur, rfl, hg, (hb.block g (Array.getElem?_eq_some_iff.1 hh).1 (hs g rfl)).trans hh, hrest⟩⟩

theorem ownsRow_mono' {w : World} {base base' : Nat} {e : TypeId} {size n : Nat} {v : Value} {xs : List Value} (h : w.ownsRow base e size v n xs) (hb : base' ≤ base) : w.ownsRow base' e size v n xs := by
  obtain ⟨h1, h2 | ⟨g, cap, cur, hv, hg, hr⟩⟩ := h
  · exact ⟨h1, .inl h2⟩
  · exact ⟨h1, .inr ⟨g, cap, cur, hv, Nat.le_trans hb hg, hr⟩⟩

/-- A node in rows of its own, in blocks from lo on and below hi. -/
structure OwN (w : World) (lo hi : Nat) (A0 : Option Addr) (c0 : Nat) (A1 : Option Addr) (c1 : Nat) (A2 : Option Addr) (c2 : Nat) (nd : NodeD) : Prop where
  pairs : w.ownsRow lo 31 2 (.slice A0 nd.pairs.length c0) nd.pairs.length (pcells nd.pairs)
  seps : w.ownsRow lo 9 1 (.slice A1 nd.seps.length c1) nd.seps.length (scells nd.seps)
  kids : w.ownsRow lo 85 33 (.slice A2 nd.kids.length c2) nd.kids.length (kcells nd.kids)
  u0 : ∀ k, (Value.slice A0 nd.pairs.length c0).ownBlock = some k → k < hi
  u1 : ∀ k, (Value.slice A1 nd.seps.length c1).ownBlock = some k → k < hi
  u2 : ∀ k, (Value.slice A2 nd.kids.length c2).ownBlock = some k → k < hi
  hp : nd.pairs.length * 32 ≤ 140737488355328
  hs : nd.seps.length * 16 ≤ 140737488355328
  hk : nd.kids.length * 36 ≤ 140737488355328
  pk : ∀ p ∈ nd.pairs, p.k.size ≤ 140737488355328 ∧ p.v.size ≤ 140737488355328
  sk : ∀ s ∈ nd.seps, s.size ≤ 140737488355328
  kk : ∀ k ∈ nd.kids, k.sum.length = 32

section
variable {w w' : World} {lo hi : Nat} {A0 A1 A2 : Option Addr} {c0 c1 c2 : Nat} {nd : NodeD}
theorem OwN.rd (h : OwN w lo hi A0 c0 A1 c1 A2 c2 nd) : RdN w A0 c0 A1 c1 A2 c2 nd :=
  ⟨(own_rd' h.pairs).2, (own_rd' h.seps).2, (own_rd' h.kids).2, h.hp, h.hs, h.hk, (own_rd' h.pairs).1, (own_rd' h.seps).1, (own_rd' h.kids).1, h.pk, h.sk, h.kk⟩
theorem OwN.kept {S : Nat → Prop} (h : OwN w lo hi A0 c0 A1 c1 A2 c2 nd) (hb : Kept S w w') (hs : ∀ k, lo ≤ k → k < hi → ¬ S k) : OwN w' lo hi A0 c0 A1 c1 A2 c2 nd :=
  ⟨own_kept h.pairs hb fun k hk => hs k (h.pairs.lt k hk).1 (h.u0 k hk), own_kept h.seps hb fun k hk => hs k (h.seps.lt k hk).1 (h.u1 k hk), own_kept h.kids hb fun k hk => hs k (h.kids.lt k hk).1 (h.u2 k hk),
    h.u0, h.u1, h.u2, h.hp, h.hs, h.hk, h.pk, h.sk, h.kk⟩
theorem OwN.below (h : OwN w lo hi A0 c0 A1 c1 A2 c2 nd) (hb : Below w.heap.size w w') : OwN w' lo hi A0 c0 A1 c1 A2 c2 nd :=
  h.kept (S := fun _ => False) (.of_below hb) (fun _ _ _ => id)
theorem OwN.wide (h : OwN w lo hi A0 c0 A1 c1 A2 c2 nd) {lo' hi' : Nat} (h1 : lo' ≤ lo) (h2 : hi ≤ hi') : OwN w lo' hi' A0 c0 A1 c1 A2 c2 nd :=
  ⟨ownsRow_mono' h.pairs h1, ownsRow_mono' h.seps h1, ownsRow_mono' h.kids h1, fun k hk => Nat.lt_of_lt_of_le (h.u0 k hk) h2, fun k hk => Nat.lt_of_lt_of_le (h.u1 k hk) h2, fun k hk => Nat.lt_of_lt_of_le (h.u2 k hk) h2,
    h.hp, h.hs, h.hk, h.pk, h.sk, h.kk⟩
end

/-- Room for so many more. -/
structure Room (r : Nat) (nd : NodeD) : Prop where
  p : (nd.pairs.length + r) * 32 ≤ 140737488355328
  s : (nd.seps.length + r) * 16 ≤ 140737488355328
  k : (nd.kids.length + r) * 36 ≤ 140737488355328

theorem pcells_len (l : List PairD) : (pcells l).length = l.length * 2 := by
  induction l with
  | nil => rfl
  | cons a l ih => simp [pcells, PairD.cells] at ih ⊢; omega
theorem scells_len (l : List ByteArray) : (scells l).length = l.length * 1 := by simp [scells]
theorem kcells_len (l : List KidD) (h : ∀ k ∈ l, k.sum.length = 32) : (kcells l).length = l.length * 33 := by
  induction l with
  | nil => rfl
  | cons a l ih =>
    have h1 := ih fun k hk => h k (List.mem_cons_of_mem _ hk)
    have h2 := h a (List.mem_cons_self ..)
    simp [kcells, KidD.cells, h2] at h1 ⊢; omega
theorem pc1 (l : List PairD) : ∀ u ∈ pcells l, u.oneCell' = true := by
  intro u hu
  simp only [pcells, List.mem_flatMap] at hu
  obtain ⟨p, _, hu⟩ := hu
  simp only [PairD.cells, List.mem_cons, List.not_mem_nil, or_false] at hu
  rcases hu with rfl | rfl <;> rfl
theorem sc1 (l : List ByteArray) : ∀ u ∈ scells l, u.oneCell' = true := by
  intro u hu
  simp only [scells, List.mem_map] at hu
  obtain ⟨p, _, rfl⟩ := hu
  rfl
theorem kc1 (l : List KidD) : ∀ u ∈ kcells l, u.oneCell' = true := by
  intro u hu
  simp only [kcells, List.mem_flatMap] at hu
  obtain ⟨p, _, hu⟩ := hu
  simp only [KidD.cells, List.mem_cons, List.mem_map] at hu
  rcases hu with rfl | ⟨x, _, rfl⟩ <;> rfl

theorem pcells_append (a b : List PairD) : pcells (a ++ b) = pcells a ++ pcells b := List.flatMap_append
theorem kcells_append (a b : List KidD) : kcells (a ++ b) = kcells a ++ kcells b := List.flatMap_append
theorem scells_append (a b : List ByteArray) : scells (a ++ b) = scells a ++ scells b := List.map_append
theorem pcells_take (l : List PairD) (k : Nat) : (pcells l).take (k * 2) = pcells (l.take k) := by
  induction l generalizing k with
  | nil => simp [pcells]
  | cons a l ih =>
    cases k with
    | zero => simp [pcells]
    | succ k =>
      have := ih k
      simp only [pcells, List.flatMap_cons, List.take_succ_cons, PairD.cells] at this ⊢
      rw [show (k + 1) * 2 = k * 2 + 1 + 1 by omega]
      simp [this]
theorem pcells_drop (l : List PairD) (k : Nat) : (pcells l).drop (k * 2) = pcells (l.drop k) := by
  induction l generalizing k with
  | nil => simp [pcells]
  | cons a l ih =>
    cases k with
    | zero => simp [pcells]
    | succ k =>
      have := ih k
      simp only [pcells, List.flatMap_cons, List.drop_succ_cons, PairD.cells] at this ⊢
      rw [show (k + 1) * 2 = k * 2 + 1 + 1 by omega]
      simp [this]
theorem scells_take (l : List ByteArray) (k : Nat) : (scells l).take (k * 1) = scells (l.take k) := by simp [scells, List.map_take]
theorem scells_drop (l : List ByteArray) (k : Nat) : (scells l).drop (k * 1) = scells (l.drop k) := by simp [scells, List.map_drop]
theorem kcells_take (l : List KidD) (k : Nat) (h : ∀ x ∈ l, x.sum.length = 32) : (kcells l).take (k * 33) = kcells (l.take k) := by
  induction l generalizing k with
  | nil => simp [kcells]
  | cons a l ih =>
    cases k with
    | zero => simp [kcells]
    | succ k =>
      have h2 := h a (List.mem_cons_self ..)
      have := ih k fun k hk => h k (List.mem_cons_of_mem _ hk)
      have hl : a.cells.length = 33 := by simp [KidD.cells, h2]
      simp only [kcells, List.flatMap_cons, List.take_succ_cons] at this ⊢
      rw [List.take_append, hl, show (k + 1) * 33 - 33 = k * 33 by omega, this, List.take_of_length_le (by omega)]
theorem kcells_drop (l : List KidD) (k : Nat) (h : ∀ x ∈ l, x.sum.length = 32) : (kcells l).drop (k * 33) = kcells (l.drop k) := by
  induction l generalizing k with
  | nil => simp [kcells]
  | cons a l ih =>
    cases k with
    | zero => simp [kcells]
    | succ k =>
      have h2 := h a (List.mem_cons_self ..)
      have := ih k fun k hk => h k (List.mem_cons_of_mem _ hk)
      have hl : a.cells.length = 33 := by simp [KidD.cells, h2]
      simp only [kcells, List.flatMap_cons, List.drop_succ_cons] at this ⊢
      rw [List.drop_append, hl, show (k + 1) * 33 - 33 = k * 33 by omega, this, List.drop_of_length_le (by omega), List.nil_append]

end Go.Proofs.Ytajkoeodabmgeaa
