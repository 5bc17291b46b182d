import Derived.Test.YtajkoeodabmgeaaZ10
import Derived.Test.YtajkoeodabmgeaaZ6
import Derived.Test.YtajkoeodabmgeaaU6

section
namespace Go.Proofs.Ytajkoeodabmgeaa
open Go.RowKit
set_option maxHeartbeats 2000000
set_option maxRecDepth 100000

/-! What is put is found; taken out again it is as it was: plain. -/
def ins (p : PairD) : List PairD → List PairD
  | [] => [p]
  | a :: t => if bl a.k p.k = true then a :: ins p t else if (a.k.toList == p.k.toList) = true then p :: t else p :: a :: t

theorem findI_cons (a : PairD) (t : List PairD) (key : ByteArray) : findI (a :: t) key = if bl a.k key = true then findI t key + 1 else 0 := by unfold findI; rw [cntW_cons]
theorem findB_lo {a : PairD} {t : List PairD} {key : ByteArray} (h : bl a.k key = true) : findB (a :: t) key = findB t key := by
  unfold findB; rw [findI_cons, if_pos h, List.getElem?_cons_succ]
theorem findB_hi {a : PairD} {t : List PairD} {key : ByteArray} (h : ¬ bl a.k key = true) : findB (a :: t) key = (a.k.toList == key.toList) := by
  unfold findB; rw [findI_cons, if_neg h]; rfl
theorem bl_self {a b : ByteArray} (h : a.toList = b.toList) : ¬ bl a b = true := by
  intro h'; rw [bl, h] at h'; have h'' : lt b.toList b.toList = true := h'; rw [lt_irrefl] at h''; cases h''

theorem putN_ins (p : PairD) : ∀ l : List PairD, l.take (findI l p.k) ++ [p] ++ l.drop (findI l p.k + manyB (findB l p.k)) = ins p l
  | [] => by simp [ins, findI, cntW]
  | a :: t => by
    unfold ins
    by_cases h : bl a.k p.k = true
    · rw [if_pos h, findB_lo h, findI_cons, if_pos h, ← putN_ins p t]
      rw [show findI t p.k + 1 + manyB (findB t p.k) = (findI t p.k + manyB (findB t p.k)) + 1 by omega]
      simp
    · rw [if_neg h, findB_hi h, findI_cons, if_neg h]
      cases (a.k.toList == p.k.toList) <;> simp [manyB]

theorem ins_mem {p x : PairD} : ∀ {l : List PairD}, x ∈ ins p l → x = p ∨ x ∈ l
  | [], h => by simp [ins] at h; exact .inl h
  | a :: t, h => by
    unfold ins at h
    split at h
    · rcases List.mem_cons.1 h with h | h
      · exact .inr (by rw [h]; exact List.mem_cons_self ..)
      · rcases ins_mem h with h | h
        · exact .inl h
        · exact .inr (List.mem_cons_of_mem _ h)
    · split at h
      · rcases List.mem_cons.1 h with h | h
        · exact .inl h
        · exact .inr (List.mem_cons_of_mem _ h)
      · rcases List.mem_cons.1 h with h | h
        · exact .inl h
        · exact .inr h

theorem ins_self (p : PairD) : ∀ l : List PairD, ins p (ins p l) = ins p l
  | [] => by
    have h : ¬ bl p.k p.k = true := bl_self rfl
    simp only [ins, if_neg h, beq_self_eq_true, if_true]
  | a :: t => by
    by_cases h : bl a.k p.k = true
    · have e : ins p (a :: t) = a :: ins p t := by rw [ins, if_pos h]
      rw [e, ins, if_pos h, ins_self p t]
    · by_cases h2 : (a.k.toList == p.k.toList) = true
      · have e : ins p (a :: t) = p :: t := by rw [ins, if_neg h, if_pos h2]
        rw [e, ins, if_neg (bl_self rfl), if_pos (by simp)]
      · have e : ins p (a :: t) = p :: a :: t := by rw [ins, if_neg h, if_neg h2]
        rw [e, ins, if_neg (bl_self rfl), if_pos (by simp)]

theorem ins_find (p : PairD) : ∀ l : List PairD, (ins p l)[findI (ins p l) p.k]? = some p ∧ findB (ins p l) p.k = true
  | [] => by
    have h : ¬ bl p.k p.k = true := bl_self rfl
    simp only [ins, findI_cons, if_neg h, findB_hi h]; simp
  | a :: t => by
    have h0 : ¬ bl p.k p.k = true := bl_self rfl
    unfold ins
    by_cases h : bl a.k p.k = true
    · rw [if_pos h, findI_cons, if_pos h, findB_lo h, List.getElem?_cons_succ]
      exact ins_find p t
    · rw [if_neg h]
      split <;> (rw [findI_cons, if_neg h0, findB_hi h0]; simp)

theorem up_ins (p : PairD) : ∀ l : List PairD, up l → up (ins p l)
  | [], _ => by simp [ins, up]
  | a :: t, h => by
    obtain ⟨ha, ht⟩ := List.pairwise_cons.1 h
    unfold ins
    by_cases h1 : bl a.k p.k = true
    · rw [if_pos h1]
      refine List.pairwise_cons.2 ⟨fun x hx => ?_, up_ins p t ht⟩
      rcases ins_mem hx with rfl | hx
      · exact h1
      · exact ha x hx
    · rw [if_neg h1]
      split
      · rename_i h2
        have h2 : a.k.toList = p.k.toList := by simpa using h2
        refine List.pairwise_cons.2 ⟨fun x hx => ?_, ht⟩
        have := ha x hx
        rwa [bl, h2] at this
      · rename_i h2
        have h3 : bl p.k a.k = true := by
          rcases lt_total a.k.toList p.k.toList with e | e | e
          · exact absurd e h1
          · simp [e] at h2
          · exact e
        refine List.pairwise_cons.2 ⟨fun x hx => ?_, h⟩
        rcases List.mem_cons.1 hx with rfl | hx
        · exact h3
        · exact bl_trans h3 (ha x hx)

theorem wo_cons_yes {key : ByteArray} {a : PairD} {t : List PairD} (h : a.k.toList = key.toList) : wo key (a :: t) = wo key t := by
  simp [wo, isK, h]
theorem wo_cons_no {key : ByteArray} {a : PairD} {t : List PairD} (h : a.k.toList ≠ key.toList) : wo key (a :: t) = a :: wo key t := by
  simp [wo, isK, h]
theorem bl_ne {a b : ByteArray} (h : bl a b = true) : a.toList ≠ b.toList := fun e => bl_self e h

theorem wo_ins (p : PairD) : ∀ l : List PairD, wo p.k (ins p l) = wo p.k l
  | [] => by simp [ins, wo, isK]
  | a :: t => by
    unfold ins
    by_cases h : bl a.k p.k = true
    · rw [if_pos h, wo_cons_no (bl_ne h), wo_cons_no (bl_ne h), wo_ins p t]
    · rw [if_neg h]
      split
      · rename_i h2
        rw [wo_cons_yes rfl, wo_cons_yes (by simpa using h2)]
      · rw [wo_cons_yes rfl]
theorem wo_wo (key : ByteArray) (l : List PairD) : wo key (wo key l) = wo key l := by simp [wo]
theorem wo_not {key : ByteArray} {l : List PairD} (h : woB key l = false) : wo key l = l := by
  rw [woB, List.any_eq_false] at h
  rw [wo, List.filter_eq_self]; intro q hq; rw [Bool.eq_false_iff.2 (h q hq)]; rfl
theorem woB_wo (key : ByteArray) (l : List PairD) : woB key (wo key l) = false := by
  rw [woB, List.any_eq_false]
  intro q hq
  have := (List.mem_filter.1 hq).2
  simpa using this
theorem up_wo (key : ByteArray) {l : List PairD} (h : up l) : up (wo key l) := List.Pairwise.sublist List.filter_sublist h

/-- When is a list of pairs a right leaf's? -/
def leafOk (pg : Int) (l : List PairD) : Prop := up l ∧ ∀ q ∈ l, (1 ≤ q.k.size ∧ (q.k.size : Int) ≤ pg / 16) ∧ (q.v.size : Int) ≤ pg / 8

theorem rises_of_up {mk : Int} {l : List PairD} (h : up l) (hs : ∀ q ∈ l, 1 ≤ q.k.size ∧ (q.k.size : Int) ≤ mk) : rises mk (l.map (·.k)) := by
  intro i hi
  have hi' : i < l.length := by simpa using hi
  refine ⟨by simpa using hs l[i] (List.getElem_mem _), fun h0 => ?_⟩
  rw [up, List.pairwise_iff_getElem] at h
  have := h (i - 1) i (by omega) hi' (by omega)
  simpa using this

theorem leafOk_iff {pg wd : Int} {l : List PairD} (hr : right pg wd = true) : leafB pg wd ⟨l, [], []⟩ = true ↔ leafOk pg l := by
  rw [leafB_iff, decide_eq_true_iff]
  constructor
  · rintro ⟨h, _⟩
    obtain ⟨_, hs⟩ := checkE_zero h
    rw [shaped, if_pos (show leafD ⟨l, [], []⟩ from ⟨rfl, rfl⟩)] at hs
    refine ⟨rises_up hs.1, fun q hq => ?_⟩
    obtain ⟨i, hi, rfl⟩ := List.getElem_of_mem hq
    have h1 := (hs.1 i (by simpa using hi)).1
    refine ⟨by simpa using h1, ?_⟩
    have h2 : ¬ pg / 8 < (l[i].v.size : Int) := fun hh => hs.2 ⟨_, hq, hh⟩
    omega
  · rintro ⟨h, hs⟩
    refine ⟨?_, rfl, rfl⟩
    rw [checkE, if_pos hr, if_pos]
    rw [shaped, if_pos (show leafD ⟨l, [], []⟩ from ⟨rfl, rfl⟩)]
    refine ⟨rises_of_up h fun q hq => (hs q hq).1, ?_⟩
    rintro ⟨q, hq, h2⟩
    have := (hs q hq).2
    omega

/-- All that GraftBack asks. -/
structure BackP (pg wd : Int) (nd : NodeD) (p : PairD) : Prop where
  bad : putE pg wd nd p ≠ 0 → putR pg wd nd p = noN ∧ putB pg wd nd p = false
  found : putE pg wd nd p = 0 → findB (putR pg wd nd p).pairs p.k = true ∧ (putR pg wd nd p).pairs[findI (putR pg wd nd p).pairs p.k]? = some p ∧ findB nd.pairs p.k = putB pg wd nd p
  again : putE pg wd nd p = 0 → putE pg wd (putR pg wd nd p) p = 0 ∧ putR pg wd (putR pg wd nd p) p = putR pg wd nd p ∧ putB pg wd (putR pg wd nd p) p = true
  less : putE pg wd nd p = 0 → remE pg wd (putR pg wd nd p) = 0 ∧ remB pg wd (putR pg wd nd p) p.k = true ∧ (putB pg wd nd p = false → remR pg wd (putR pg wd nd p) p.k = nd)
  still : putE pg wd nd p = 0 → remE pg wd (remR pg wd (putR pg wd nd p) p.k) = 0 ∧ remB pg wd (remR pg wd (putR pg wd nd p) p.k) p.k = false ∧
    remR pg wd (remR pg wd (putR pg wd nd p) p.k) p.k = remR pg wd (putR pg wd nd p) p.k

theorem putE_ok {pg wd : Int} {nd : NodeD} {p : PairD} (h : putE pg wd nd p = 0) : right pg wd = true ∧ leafB pg wd nd = true ∧ putP pg p = true := by
  unfold putE at h
  cases h1 : right pg wd <;> cases h2 : leafB pg wd nd <;> cases h3 : putP pg p <;> simp_all

theorem back_plain (pg wd : Int) (nd : NodeD) (p : PairD) : BackP pg wd nd p := by
  by_cases hE : putE pg wd nd p = 0
  · obtain ⟨hr, hl, hp⟩ := putE_ok hE
    obtain ⟨l, rfl⟩ : ∃ l, nd = ⟨l, [], []⟩ := ⟨_, leaf_same hl⟩
    have hok := (leafOk_iff hr).1 hl
    have e1 : putR pg wd ⟨l, [], []⟩ p = ⟨ins p l, [], []⟩ := by rw [putR, if_pos hE, putN, putN_ins]
    have hpk : (1 ≤ p.k.size ∧ (p.k.size : Int) ≤ pg / 16) ∧ (p.v.size : Int) ≤ pg / 8 := by
      simp only [putP, Bool.and_eq_true, decide_eq_true_eq, Bool.not_eq_true', beq_eq_false_iff_ne] at hp
      refine ⟨⟨?_, hp.1.2⟩, hp.2⟩
      rcases Nat.eq_zero_or_pos p.k.size with h | h
      · refine absurd ?_ hp.1.1
        rw [toList_data]
        exact List.eq_nil_of_length_eq_zero (by simpa using h)
      · exact h
    have hok2 : leafOk pg (ins p l) := ⟨up_ins p l hok.1, fun q hq => (ins_mem hq).elim (fun e => e ▸ hpk) (hok.2 q)⟩
    have hl2 := (leafOk_iff (wd := wd) hr).2 hok2
    have hE2 : putE pg wd ⟨ins p l, [], []⟩ p = 0 := by simp [putE, hr, hl2, hp]
    have hf := ins_find p l
    have hR2 : remE pg wd ⟨ins p l, [], []⟩ = 0 := by simp [remE, hr, hl2]
    have hB2 : remB pg wd ⟨ins p l, [], []⟩ p.k = true := by rw [remB, if_pos hR2]; exact hf.2
    have hN2 : remR pg wd ⟨ins p l, [], []⟩ p.k = ⟨wo p.k l, [], []⟩ := by rw [remR, if_pos hR2, remN]; simp only [wo_ins]
    have hok3 : leafOk pg (wo p.k l) := ⟨up_wo _ hok.1, fun q hq => hok.2 q (List.mem_filter.1 hq).1⟩
    have hl3 := (leafOk_iff (wd := wd) hr).2 hok3
    have hR3 : remE pg wd ⟨wo p.k l, [], []⟩ = 0 := by simp [remE, hr, hl3]
    have hwb : woB p.k (wo p.k l) = findB (wo p.k l) p.k := (wo_find p.k _ hok3.1).2
    refine ⟨fun h => absurd hE h, fun _ => ?_, fun _ => ?_, fun _ => ?_, fun _ => ?_⟩
    · rw [e1]; exact ⟨hf.2, hf.1, by rw [putB, if_pos hE]⟩
    · rw [e1]; refine ⟨hE2, ?_, ?_⟩
      · rw [putR, if_pos hE2, putN, putN_ins, ins_self]
      · rw [putB, if_pos hE2]; exact hf.2
    · rw [e1]; refine ⟨hR2, hB2, fun h => ?_⟩
      rw [putB, if_pos hE] at h
      rw [hN2, wo_not]
      rw [(wo_find p.k l hok.1).2]; exact h
    · rw [e1, hN2]; refine ⟨hR3, ?_, ?_⟩
      · rw [remB, if_pos hR3, ← hwb, woB_wo]
      · rw [remR, if_pos hR3, remN]; simp only [wo_wo]
  · exact ⟨fun _ => ⟨by rw [putR, if_neg hE], by rw [putB, if_neg hE]⟩, fun h => absurd h hE, fun h => absurd h hE, fun h => absurd h hE, fun h => absurd h hE⟩

end Go.Proofs.Ytajkoeodabmgeaa
end

section
namespace Go.Proofs.Ytajkoeodabmgeaa
open Go.RowKit
set_option maxHeartbeats 2000000
set_option maxRecDepth 100000

/-! Of a cut leaf a key lies on the left just if it is below the separator: plain. -/
theorem sep_above {l r : ByteArray} (h : bl l r = true) : bl l (sepS l r) = true := by
  rw [sepS, if_pos h, bl, extract_take, toList_data]
  exact take_lcp_succ (by rw [← toList_data, ← toList_data]; exact h)
theorem sep_below {l r : ByteArray} (h : bl l r = true) : bl r (sepS l r) = false := by
  rw [sepS, if_pos h, bl, extract_take, toList_data]
  exact take_le _ _

theorem leaf_le {l : List PairD} (h : up l) {i j : Nat} (hij : i ≤ j) (hj : j < l.length) : bl l[j].k (l[i]'(by omega)).k = false := by
  by_cases e : i = j
  · subst e; exact lt_irrefl _
  · rw [up, List.pairwise_iff_getElem] at h
    exact lt_asymm (h i j (by omega) hj (by omega))

structure WaysP (l : List PairD) (k : Nat) (key : ByteArray) : Prop where
  all : findB l key = (findB (l.take k) key || findB (l.drop k) key)
  lo : findB (l.take k) key = true → bl key (sepS (keyAt l (k - 1)) (keyAt l k)) = true
  hi : findB (l.drop k) key = true → bl key (sepS (keyAt l (k - 1)) (keyAt l k)) = false

theorem ways_plain {l : List PairD} (h : up l) {k : Nat} (h1 : 1 ≤ k) (h2 : k < l.length) (key : ByteArray) : WaysP l k key := by
  have hl := h.sublist (List.take_sublist k l)
  have hr := h.sublist (List.drop_sublist k l)
  have e0 := (wo_find key l h).2
  have e1 := (wo_find key _ hl).2
  have e2 := (wo_find key _ hr).2
  have hs : bl (keyAt l (k - 1)) (keyAt l k) = true := by
    rw [keyAt_get (show k - 1 < l.length by omega), keyAt_get h2]
    rw [up, List.pairwise_iff_getElem] at h
    exact h (k - 1) k (by omega) h2 (by omega)
  refine ⟨?_, fun hf => ?_, fun hf => ?_⟩
  · rw [← e0, ← e1, ← e2, woB, woB, woB, ← List.any_append, List.take_append_drop]
  · rw [← e1, woB, List.any_eq_true] at hf
    obtain ⟨q, hq, hk⟩ := hf
    have hk : q.k.toList = key.toList := by simpa [isK] using hk
    obtain ⟨i, hi, rfl⟩ := List.getElem_of_mem hq
    rw [List.getElem_take] at hk
    have hi' : i < k ∧ i < l.length := by rw [List.length_take] at hi; omega
    have h3 := leaf_le h (i := i) (j := k - 1) (by omega) (by omega)
    have h4 := sep_above hs
    rw [bl] at h3 h4 ⊢
    rw [keyAt_get (show k - 1 < l.length by omega)] at h4 ⊢
    rw [← hk]
    exact le_lt h3 h4
  · rw [← e2, woB, List.any_eq_true] at hf
    obtain ⟨q, hq, hk⟩ := hf
    have hk : q.k.toList = key.toList := by simpa [isK] using hk
    obtain ⟨i, hi, rfl⟩ := List.getElem_of_mem hq
    rw [List.getElem_drop] at hk
    have hi' : k + i < l.length := by rw [List.length_drop] at hi; omega
    have h3 := leaf_le h (i := k) (j := k + i) (by omega) hi'
    have h4 := sep_below hs
    rw [bl] at h3 h4 ⊢
    rw [keyAt_get h2] at h4 ⊢
    rw [← hk]
    exact le_trans' h4 h3

end Go.Proofs.Ytajkoeodabmgeaa
end

section
namespace Go.Proofs.Ytajkoeodabmgeaa
open Go.RowKit
set_option maxHeartbeats 2000000
set_option maxRecDepth 100000

/-! One cut is enough: plain. -/

theorem least_of {p : Nat → Prop} (h : ∃ n, p n) : ∃ n, p n ∧ ∀ m, m < n → ¬ p m := by
  obtain ⟨n, hn⟩ := h
  induction n using Nat.strongRecOn with
  | ind n ih =>
    by_cases hm : ∃ m, m < n ∧ p m
    · obtain ⟨m, h1, h2⟩ := hm
      exact ih m h1 h2
    · exact ⟨n, hn, fun m h1 h2 => hm ⟨m, h1, h2⟩⟩

/-- Two sides that change little by little: at some place neither is large. -/
theorem middle (a b : Nat → Int) (D H E : Int) (f : Nat) : ∀ c : Nat, 1 ≤ c → (∀ j, j + 1 < c → a (f + j + 1) ≤ a (f + j) + D) → (∀ j, j < c → a (f + j) + b (f + j) ≤ H) → a f ≤ E → b (f + (c - 1)) ≤ E → 2 * E ≤ H + D →
    ∃ j, j < c ∧ 2 * max (a (f + j)) (b (f + j)) ≤ H + D := by
  intro c hc hs hh h0 h1 hE
  by_cases hz : ∃ j, j < c ∧ b (f + j) ≤ a (f + j)
  · obtain ⟨j, ⟨hj, hab⟩, hmin⟩ := least_of hz
    cases j with
    | zero => exact ⟨0, by omega, by simp only [Nat.add_zero] at *; omega⟩
    | succ i =>
      have h2 := hmin i (by omega)
      have h3 := hs i hj
      have h4 := hh i (by omega)
      have h5 : a (f + i) < b (f + i) := by omega
      rw [← Nat.add_assoc] at hab
      by_cases h6 : 2 * b (f + i) ≤ H + D
      · exact ⟨i, by omega, by omega⟩
      · exact ⟨i + 1, hj, by rw [← Nat.add_assoc]; omega⟩
  · refine ⟨c - 1, by omega, ?_⟩
    have := hz
    have h2 : ¬ (b (f + (c - 1)) ≤ a (f + (c - 1))) := fun h => hz ⟨c - 1, by omega, h⟩
    omega

theorem cnt_small {n : Nat} (h : n < 16384) : cnt n ≤ 2 := by
  unfold cnt
  split
  · omega
  · unfold cnt
    rw [if_pos (by omega)]
    omega
theorem snoc_ind {α : Type} {p : List α → Prop} (h0 : p []) (h1 : ∀ l a, p l → p (l ++ [a])) (l : List α) : p l := by
  have : ∀ l : List α, p l.reverse := by
    intro l
    induction l with
    | nil => exact h0
    | cons a l ih => rw [List.reverse_cons]; exact h1 _ _ ih
  have h := this l.reverse
  rwa [List.reverse_reverse] at h

/-- The size of what a bestOf picks is the least. -/
def sideM (pg wd : Int) (nd : NodeD) (k : Nat) : Int := max (sizeE pg wd (halvesL nd k)) (sizeE pg wd (halvesR nd k))
theorem best_spec (pg wd : Int) (nd : NodeD) : ∀ (l : List Nat), (∀ k ∈ l, k ≠ 0) → l ≠ [] →
    (bestOf pg wd nd l).1 ∈ l ∧ (bestOf pg wd nd l).2 = sideM pg wd nd (bestOf pg wd nd l).1 ∧ ∀ k ∈ l, (bestOf pg wd nd l).2 ≤ sideM pg wd nd k := by
  refine snoc_ind (fun _ h => absurd rfl h) ?_
  · intro l k ih hl _
    rw [bestOf_snoc]
    cases l with
    | nil => simp [bestOf, bestStep, sideM]
    | cons x t =>
      obtain ⟨h1, h2, h3⟩ := ih (fun k hk => hl k (List.mem_append_left _ hk)) (by simp)
      have h4 := hl (bestOf pg wd nd (x :: t)).1 (List.mem_append_left _ h1)
      generalize bestOf pg wd nd (x :: t) = b at *
      unfold bestStep
      by_cases h5 : sideM pg wd nd k < b.2
      · rw [if_pos (.inr h5)]
        refine ⟨by simp, rfl, fun j hj => ?_⟩
        show sideM pg wd nd k ≤ _
        rcases List.mem_append.1 hj with hj | hj
        · have := h3 j hj; omega
        · rw [List.mem_singleton.1 hj]; exact Int.le_refl _
      · rw [if_neg (fun h => h.elim h4 h5)]
        refine ⟨List.mem_append_left _ h1, h2, fun j hj => ?_⟩
        rcases List.mem_append.1 hj with hj | hj
        · exact h3 j hj
        · rw [List.mem_singleton.1 hj]; omega

theorem places_mem {pg wd : Int} {nd : NodeD} (hc : checkE pg wd nd = 0) {k : Nat} : k ∈ places pg wd nd ↔ ∃ j, j < cutsN nd ∧ k = firstN nd + j := by
  rw [places, if_pos hc]
  simp only [List.mem_map, List.mem_range]
  constructor
  · rintro ⟨j, h, rfl⟩; exact ⟨j, h, rfl⟩
  · rintro ⟨j, h, rfl⟩; exact ⟨j, h, rfl⟩

/-- If one cut is good, so is the one that is taken. -/
theorem split_best {pg wd : Int} {nd : NodeD} (hc : checkE pg wd nd = 0) (M : Int) (j : Nat) (hj : j < cutsN nd) (hM : sideM pg wd nd (firstN nd + j) ≤ M) :
    splitE pg wd nd = 0 ∧ ∃ i, i < cutsN nd ∧ splitAt' pg wd nd = firstN nd + i ∧ sideM pg wd nd (firstN nd + i) ≤ M := by
  have h0 : ∀ k ∈ places pg wd nd, k ≠ 0 := by
    intro k hk
    obtain ⟨i, _, rfl⟩ := (places_mem hc).1 hk
    unfold firstN; split <;> omega
  have hm : firstN nd + j ∈ places pg wd nd := (places_mem hc).2 ⟨j, hj, rfl⟩
  have hne : places pg wd nd ≠ [] := fun e => by rw [e] at hm; cases hm
  obtain ⟨h1, h2, h3⟩ := best_spec pg wd nd _ h0 hne
  have h4 := h0 _ h1
  obtain ⟨i, hi, he⟩ := (places_mem hc).1 h1
  have h5 := h3 _ hm
  refine ⟨?_, i, hi, he, ?_⟩
  · rw [splitE, if_pos (checkE_zero hc).1, if_pos hc]; exact if_neg h4
  · rw [← he, ← h2]; omega

end Go.Proofs.Ytajkoeodabmgeaa
end

section
namespace Go.Proofs.Ytajkoeodabmgeaa
open Go.RowKit
set_option maxHeartbeats 2000000
set_option maxRecDepth 100000

def lsz (l : List PairD) : Nat := 1 + cnt l.length + (l.map psz).sum
theorem szLeaf {pg wd : Int} {l : List PairD} (hr : right pg wd = true) (h : leafOk pg l) : checkE pg wd ⟨l, [], []⟩ = 0 ∧ sizeE pg wd ⟨l, [], []⟩ = lsz l := by
  have h1 := (leafOk_iff (wd := wd) hr).2 h
  rw [leafB_iff, decide_eq_true_iff] at h1
  refine ⟨h1.1, ?_⟩
  rw [sizeE, if_pos h1.1, sizeD, if_pos h1.2]
  rfl

theorem tx_small {s : ByteArray} {B : Nat} (h : s.size ≤ B) (hB : B < 16384) : tx s ≤ B + 2 := by
  have := cnt_small (n := s.size) (by omega)
  unfold tx; omega
theorem sum_ge_len {α : Type} (f : α → Nat) (l : List α) (h : ∀ x ∈ l, 1 ≤ f x) : l.length ≤ (l.map f).sum := by
  induction l with
  | nil => simp
  | cons x l ih =>
    have h1 := h x (by simp)
    have h2 := ih (fun y hy => h y (by simp [hy]))
    simp only [List.map_cons, List.sum_cons, List.length_cons]
    omega
theorem sum_split {α : Type} (f : α → Nat) (l : List α) (k : Nat) : ((l.take k).map f).sum + ((l.drop k).map f).sum = (l.map f).sum := by
  rw [← List.sum_append, ← List.map_append, List.take_append_drop]

theorem right_page {pg wd : Int} (h : right pg wd = true) : pg = 1024 ∨ pg = 2048 ∨ pg = 4096 ∨ pg = 8192 := (of_decide_eq_true h).1

/-- What GraftHalves asks of the two halves' sizes. -/
structure HalvesP (pg wd : Int) (L R : NodeD) : Prop where
  cl : checkE pg wd L = 0
  cr : checkE pg wd R = 0
  a1 : sizeE pg wd L ≤ pg - 32
  a2 : pg - 32 ≤ 3 * sizeE pg wd L
  b1 : sizeE pg wd R ≤ pg - 32
  b2 : pg - 32 ≤ 3 * sizeE pg wd R

theorem halves_plain_leaf {pg wd : Int} {nd : NodeD} (hr : right pg wd = true) (hc : checkE pg wd nd = 0) (hk : leafD nd) (h1 : pg - 32 < sizeE pg wd nd) (h2 : sizeE pg wd nd ≤ pg - 32 + 2 * ((pg - 30) / 3)) :
    splitE pg wd nd = 0 ∧ HalvesP pg wd (splitL pg wd nd) (splitR pg wd nd) := by
  have hlf : leafB pg wd nd = true := by rw [leafB_iff, decide_eq_true_iff]; exact ⟨hc, hk⟩
  obtain ⟨l, rfl⟩ : ∃ l, nd = ⟨l, [], []⟩ := ⟨_, leaf_same hlf⟩
  have hok := (leafOk_iff hr).1 hlf
  have hS := (szLeaf (wd := wd) hr hok).2
  have hp := right_page hr
  have hq : ∀ q ∈ l, 1 ≤ psz q ∧ psz q ≤ (pg / 16 + pg / 8 + 4).toNat := by
    intro q hq
    have h3 := hok.2 q hq
    have h4 := tx_small (s := q.k) (B := (pg / 16).toNat) (by omega) (by omega)
    have h5 := tx_small (s := q.v) (B := (pg / 8).toNat) (by omega) (by omega)
    have h6 := cnt_pos q.k.size
    unfold psz
    refine ⟨by unfold tx; omega, by omega⟩
  obtain ⟨D, hD⟩ : ∃ D : Nat, D = (pg / 16 + pg / 8 + 4).toNat := ⟨_, rfl⟩
  rw [← hD] at hq
  have hT := sum_ge_len psz l (fun q h => (hq q h).1)
  have hSn : (lsz l : Int) = 1 + cnt l.length + ((l.map psz).sum : Nat) := by unfold lsz; omega
  have hn : l.length < 16384 := by rw [hS] at h2; have := cnt_pos l.length; omega
  have hcn := fun m (h : m < 16384) => And.intro (cnt_pos m) (cnt_small h)
  have hL : ∀ k, halvesL ⟨l, [], []⟩ k = ⟨l.take k, [], []⟩ := fun k => by simp [halvesL]
  have hR : ∀ k, halvesR ⟨l, [], []⟩ k = ⟨l.drop k, [], []⟩ := fun k => by simp [halvesR]
  have okL : ∀ k, leafOk pg (l.take k) := fun k => ⟨hok.1.sublist (List.take_sublist k l), fun q h => hok.2 q (List.mem_of_mem_take h)⟩
  have okR : ∀ k, leafOk pg (l.drop k) := fun k => ⟨hok.1.sublist (List.drop_sublist k l), fun q h => hok.2 q (List.mem_of_mem_drop h)⟩
  have sL : ∀ k, sizeE pg wd (halvesL ⟨l, [], []⟩ k) = lsz (l.take k) := fun k => by rw [hL]; exact (szLeaf hr (okL k)).2
  have sR : ∀ k, sizeE pg wd (halvesR ⟨l, [], []⟩ k) = lsz (l.drop k) := fun k => by rw [hR]; exact (szLeaf hr (okR k)).2
  have hf : firstN ⟨l, [], []⟩ = 1 := rfl
  have hcu : cutsN ⟨l, [], []⟩ = l.length - 1 := rfl
  have hsum : ∀ k, k ≤ l.length → (lsz l : Int) + 1 ≤ lsz (l.take k) + lsz (l.drop k) ∧ (lsz (l.take k) + lsz (l.drop k) : Int) ≤ lsz l + 4 := by
    intro k hk'
    have e1 := sum_split psz l k
    have e2 := hcn k (by omega)
    have e3 := hcn (l.length - k) (by omega)
    have e4 := hcn l.length hn
    have e5 : (l.take k).length = k := by rw [List.length_take]; omega
    unfold lsz
    rw [e5, List.length_drop]
    omega
  have hn2 : 2 ≤ l.length := by
    rcases Nat.lt_or_ge l.length 2 with h | h
    · have h4 := sum_le psz D l (fun q hh => (hq q hh).2)
      have h5 := hcn l.length hn
      have h6 : l.length * D ≤ 1 * D := Nat.mul_le_mul_right _ (by omega)
      omega
    · exact h
  obtain ⟨j, hj, hm⟩ := middle (fun k => (lsz (l.take k) : Int)) (fun k => (lsz (l.drop k) : Int)) (D + 1) (lsz l + 4) (D + 2) 1 (l.length - 1) (by omega)
    (fun j hj => by
      have e1 := sum_take psz l (1 + j) (by omega)
      have e2 := hcn (1 + j) (by omega)
      have e3 := hcn (1 + j + 1) (by omega)
      have e4 := (hq _ (List.getElem_mem (show 1 + j < l.length by omega))).2
      have e5 : (l.take (1 + j)).length = 1 + j := by rw [List.length_take]; omega
      have e6 : (l.take (1 + j + 1)).length = 1 + j + 1 := by rw [List.length_take]; omega
      simp only [lsz, e5, e6]
      omega)
    (fun j hj => (hsum (1 + j) (by omega)).2)
    (by
      have e1 := sum_take psz l 0 (by omega)
      have e4 := (hq _ (List.getElem_mem (show 0 < l.length by omega))).2
      have e2 := hcn 1 (by omega)
      have e5 : (l.take 1).length = 1 := by rw [List.length_take]; omega
      have e7 : cnt 1 = 1 := by unfold cnt; rfl
      simp only [lsz, e5, e7]
      simp only [Nat.zero_add, List.take_zero, List.map_nil, List.sum_nil] at e1
      omega)
    (by
      have e5 : (l.drop (1 + (l.length - 1 - 1))).length = 1 := by rw [List.length_drop]; omega
      have e7 : cnt 1 = 1 := by unfold cnt; rfl
      have e8 := sum_le psz D (l.drop (1 + (l.length - 1 - 1))) (fun q hh => (hq q (List.mem_of_mem_drop hh)).2)
      rw [e5] at e8
      simp only [lsz, e5, e7]
      omega)
    (by rw [hS] at h1; omega)
  obtain ⟨hE, i, hi, he, hM⟩ := split_best hc (((lsz l : Int) + 5 + D) / 2) j (by rw [hcu]; exact hj) (by
    unfold sideM
    rw [sL, sR, hf]
    try dsimp only at hm
    omega)
  unfold sideM at hM
  rw [sL, sR, hf] at hM
  rw [hf] at he
  rw [hcu] at hi
  have hs := (hsum (1 + i) (by omega)).1
  have eL : splitL pg wd ⟨l, [], []⟩ = ⟨l.take (1 + i), [], []⟩ := by rw [splitL, if_pos hE, he, hL]
  have eR : splitR pg wd ⟨l, [], []⟩ = ⟨l.drop (1 + i), [], []⟩ := by rw [splitR, if_pos hE, he, hR]
  rw [hS] at h1 h2
  refine ⟨hE, ?_⟩
  rw [eL, eR]
  have q1 := szLeaf (wd := wd) hr (okL (1 + i))
  have q2 := szLeaf (wd := wd) hr (okR (1 + i))
  exact ⟨q1.1, q2.1, by rw [q1.2]; omega, by rw [q1.2]; omega, by rw [q2.2]; omega, by rw [q2.2]; omega⟩

end Go.Proofs.Ytajkoeodabmgeaa
end

section
namespace Go.Proofs.Ytajkoeodabmgeaa
open Go.RowKit
set_option maxHeartbeats 2000000
set_option maxRecDepth 100000

theorem rises_take {mk : Int} {ss : List ByteArray} (h : rises mk ss) (k : Nat) : rises mk (ss.take k) := by
  intro i hi
  have hi' : i < k ∧ i < ss.length := by rw [List.length_take] at hi; omega
  have := h i hi'.2
  unfold keyOk at this ⊢
  simp only [List.getElem_take]
  exact this
theorem rises_drop {mk : Int} {ss : List ByteArray} (h : rises mk ss) (k : Nat) : rises mk (ss.drop k) := by
  intro i hi
  have hi' : k + i < ss.length := by rw [List.length_drop] at hi; omega
  have := h (k + i) hi'
  unfold keyOk at this ⊢
  simp only [List.getElem_drop]
  refine ⟨this.1, fun h0 => ?_⟩
  have h1 := this.2 (by omega)
  have e : k + (i - 1) = k + i - 1 := by omega
  simp only [e]
  exact h1

/-- When are kids and separators a right branch's? -/
def brOk (pg : Int) (W : Nat) (ss : List ByteArray) (ks : List KidD) : Prop := 2 ≤ ks.length ∧ ss.length + 1 = ks.length ∧ (¬ ∃ k ∈ ks, fitsB W k.sum = false) ∧ rises (pg / 16) ss
def bsz (W : Nat) (ss : List ByteArray) (n : Nat) : Nat := 1 + cnt n + n * (4 + W) + (ss.map tx).sum
theorem szBranch {pg wd : Int} {ss : List ByteArray} {ks : List KidD} (hr : right pg wd = true) (h : brOk pg wd.toNat ss ks) : checkE pg wd ⟨[], ss, ks⟩ = 0 ∧ sizeE pg wd ⟨[], ss, ks⟩ = bsz wd.toNat ss ks.length := by
  have hnl : ¬ leafD ⟨[], ss, ks⟩ := fun e => by have h1 : ks.length = 0 := e.2; have h2 := h.1; omega
  have hc : checkE pg wd ⟨[], ss, ks⟩ = 0 := by
    rw [checkE, if_pos hr, if_pos]
    rw [shaped, if_neg hnl]
    exact ⟨rfl, h⟩
  refine ⟨hc, ?_⟩
  rw [sizeE, if_pos hc, sizeD, if_neg hnl]
  rfl
theorem br_of {pg wd : Int} {nd : NodeD} (hc : checkE pg wd nd = 0) (hk : ¬ leafD nd) : nd = ⟨[], nd.seps, nd.kids⟩ ∧ brOk pg wd.toNat nd.seps nd.kids := by
  obtain ⟨_, hs⟩ := checkE_zero hc
  rw [shaped, if_neg hk] at hs
  refine ⟨?_, hs.2⟩
  obtain ⟨p, s, k⟩ := nd
  simp only [NodeD.mk.injEq, and_true]
  exact List.eq_nil_of_length_eq_zero hs.1

theorem halves_plain_branch {pg wd : Int} {nd : NodeD} (hr : right pg wd = true) (hc : checkE pg wd nd = 0) (hk : ¬ leafD nd) (h1 : pg - 32 < sizeE pg wd nd) (h2 : sizeE pg wd nd ≤ pg - 32 + 2 * ((pg - 30) / 3)) :
    splitE pg wd nd = 0 ∧ HalvesP pg wd (splitL pg wd nd) (splitR pg wd nd) := by
  obtain ⟨hnd, hok⟩ := br_of hc hk
  generalize nd.seps = ss at *
  generalize nd.kids = ks at *
  subst hnd
  have hS := (szBranch (wd := wd) hr hok).2
  have hp := right_page hr
  obtain ⟨_, hw1, hw2⟩ := right_spec hr
  obtain ⟨hks, hss, hfit, hri⟩ := hok
  obtain ⟨n, hn⟩ : ∃ n, n = ks.length := ⟨_, rfl⟩
  obtain ⟨W, hW⟩ : ∃ W, W = wd.toNat := ⟨_, rfl⟩
  have hq : ∀ s ∈ ss, 1 ≤ tx s ∧ tx s ≤ (pg / 16).toNat + 2 := by
    intro s hs
    obtain ⟨i, hi, rfl⟩ := List.getElem_of_mem hs
    have h3 := (hri i hi).1
    refine ⟨by have := cnt_pos ss[i].size; unfold tx; omega, tx_small (by omega) (by omega)⟩
  obtain ⟨D, hD⟩ : ∃ D : Nat, D = (pg / 16).toNat + 2 := ⟨_, rfl⟩
  obtain ⟨u, hu⟩ : ∃ u : Nat, u = 4 + W := ⟨_, rfl⟩
  have hu2 : 5 ≤ u ∧ u ≤ 36 := by omega
  rw [← hD] at hq
  rw [← hW, ← hn] at hS
  rw [← hn] at hks hss
  rw [hS] at h1 h2
  unfold bsz at h1 h2
  rw [← hu] at h1 h2
  have hnu : n * 1 ≤ n * u := Nat.mul_le_mul_left _ (by omega)
  have hn16 : n < 16384 := by have := cnt_pos n; omega
  have hcn := fun m (h : m < 16384) => And.intro (cnt_pos m) (cnt_small h)
  have hlen : 4 ≤ n := by
    rcases Nat.lt_or_ge n 4 with h | h
    · have h4 := sum_le tx D ss (fun q hh => (hq q hh).2)
      have h5 := hcn n hn16
      have h6 : ss.length * D ≤ 2 * D := Nat.mul_le_mul_right _ (by omega)
      have h7 : n * u ≤ 3 * u := Nat.mul_le_mul_right _ (by omega)
      omega
    · exact h
  have hL : ∀ k, halvesL ⟨[], ss, ks⟩ k = ⟨[], ss.take (k - 1), ks.take k⟩ := fun k => by rw [halvesL, if_neg]; show ¬ ks.length = 0; omega
  have hR : ∀ k, halvesR ⟨[], ss, ks⟩ k = ⟨[], ss.drop k, ks.drop k⟩ := fun k => by rw [halvesR, if_neg]; show ¬ ks.length = 0; omega
  have okL : ∀ k, 2 ≤ k → k + 2 ≤ n → brOk pg wd.toNat (ss.take (k - 1)) (ks.take k) := fun k e1 e2 =>
    ⟨by rw [List.length_take]; omega, by rw [List.length_take, List.length_take]; omega, fun ⟨x, hx, hf⟩ => hfit ⟨x, List.mem_of_mem_take hx, hf⟩, rises_take hri _⟩
  have okR : ∀ k, 2 ≤ k → k + 2 ≤ n → brOk pg wd.toNat (ss.drop k) (ks.drop k) := fun k e1 e2 =>
    ⟨by rw [List.length_drop]; omega, by rw [List.length_drop, List.length_drop]; omega, fun ⟨x, hx, hf⟩ => hfit ⟨x, List.mem_of_mem_drop hx, hf⟩, rises_drop hri _⟩
  have eKL : ∀ k, k ≤ n → (ks.take k).length = k := fun k e => by rw [List.length_take]; omega
  have eKR : ∀ k, k ≤ n → (ks.drop k).length = n - k := fun k e => by rw [List.length_drop]; omega
  have sL : ∀ k, 2 ≤ k → k + 2 ≤ n → sizeE pg wd (halvesL ⟨[], ss, ks⟩ k) = bsz W (ss.take (k - 1)) k := fun k e1 e2 => by
    rw [hL]; have := (szBranch (wd := wd) hr (okL k e1 e2)).2; rwa [eKL k (by omega), ← hW] at this
  have sR : ∀ k, 2 ≤ k → k + 2 ≤ n → sizeE pg wd (halvesR ⟨[], ss, ks⟩ k) = bsz W (ss.drop k) (n - k) := fun k e1 e2 => by
    rw [hR]; have := (szBranch (wd := wd) hr (okR k e1 e2)).2; rwa [eKR k (by omega), ← hW] at this
  have hf : firstN ⟨[], ss, ks⟩ = 2 := by unfold firstN; rw [if_neg]; show ¬ ks.length = 0; omega
  have hcu : cutsN ⟨[], ss, ks⟩ = n - 3 := by unfold cutsN; rw [if_neg]; (show ks.length - 3 = _; omega); (show ¬ ks.length = 0; omega)
  obtain ⟨S, hSd⟩ : ∃ S : Nat, S = bsz W ss n := ⟨_, rfl⟩
  have hSe : S = 1 + cnt n + n * u + (ss.map tx).sum := by rw [hSd, bsz, hu]
  have hsum : ∀ k, 2 ≤ k → k + 2 ≤ n → (S : Int) + 1 ≤ bsz W (ss.take (k - 1)) k + bsz W (ss.drop k) (n - k) + D ∧ (bsz W (ss.take (k - 1)) k + bsz W (ss.drop k) (n - k) : Int) ≤ S + 4 := by
    intro k g1 g2
    have e0 := sum_split tx ss k
    have e1 := sum_take tx ss (k - 1) (by omega)
    have e6 := hq _ (List.getElem_mem (show k - 1 < ss.length by omega))
    rw [show k - 1 + 1 = k by omega] at e1
    have e2 := hcn k (by omega)
    have e3 := hcn (n - k) (by omega)
    have e4 := hcn n hn16
    have e5 : k * u + (n - k) * u = n * u := by rw [← Nat.add_mul]; congr 1; omega
    unfold bsz
    rw [← hu]
    omega
  obtain ⟨j, hj, hm⟩ := middle (fun k => (bsz W (ss.take (k - 1)) k : Int)) (fun k => (bsz W (ss.drop k) (n - k) : Int)) (D + 37) (S + 4) (D + 74) 2 (n - 3) (by omega)
    (fun j hj => by
      have e1 := sum_take tx ss (1 + j) (by omega)
      have e2 := hcn (2 + j) (by omega)
      have e3 := hcn (2 + j + 1) (by omega)
      have e4 := (hq _ (List.getElem_mem (show 1 + j < ss.length by omega))).2
      have e5 : (2 + j + 1) * u = (2 + j) * u + u := Nat.succ_mul _ _
      simp only [bsz, show 2 + j + 1 - 1 = 1 + j + 1 by omega, show 2 + j - 1 = 1 + j by omega, ← hu]
      omega)
    (fun j hj => (hsum (2 + j) (by omega) (by omega)).2)
    (by
      have e1 := sum_take tx ss 0 (by omega)
      have e4 := (hq _ (List.getElem_mem (show 0 < ss.length by omega))).2
      have e7 : cnt 2 = 1 := by unfold cnt; rfl
      simp only [Nat.zero_add, List.take_zero, List.map_nil, List.sum_nil] at e1
      simp only [bsz, e7, ← hu, show 2 - 1 = 1 from rfl]
      omega)
    (by
      have e5 : (ss.drop (2 + (n - 3 - 1))).length = 1 := by rw [List.length_drop]; omega
      have e7 : cnt 2 = 1 := by unfold cnt; rfl
      have e8 := sum_le tx D (ss.drop (2 + (n - 3 - 1))) (fun q hh => (hq q (List.mem_of_mem_drop hh)).2)
      rw [e5] at e8
      simp only [bsz, show n - (2 + (n - 3 - 1)) = 2 by omega, e7, ← hu]
      omega)
    (by omega)
  obtain ⟨hE, i, hi, he, hM⟩ := split_best hc (((S : Int) + 41 + D) / 2) j (by rw [hcu]; exact hj) (by
    unfold sideM
    rw [hf, sL _ (by omega) (by omega), sR _ (by omega) (by omega)]
    try dsimp only at hm
    omega)
  rw [hcu] at hi
  unfold sideM at hM
  rw [hf, sL _ (by omega) (by omega), sR _ (by omega) (by omega)] at hM
  rw [hf] at he
  have hs := (hsum (2 + i) (by omega) (by omega)).1
  have q1 := szBranch (wd := wd) hr (okL (2 + i) (by omega) (by omega))
  have q2 := szBranch (wd := wd) hr (okR (2 + i) (by omega) (by omega))
  rw [eKL _ (by omega), ← hW] at q1
  rw [eKR _ (by omega), ← hW] at q2
  have eL : splitL pg wd ⟨[], ss, ks⟩ = ⟨[], ss.take (2 + i - 1), ks.take (2 + i)⟩ := by rw [splitL, if_pos hE, he, hL]
  have eR : splitR pg wd ⟨[], ss, ks⟩ = ⟨[], ss.drop (2 + i), ks.drop (2 + i)⟩ := by rw [splitR, if_pos hE, he, hR]
  refine ⟨hE, ?_⟩
  rw [eL, eR]
  exact ⟨q1.1, q2.1, by rw [q1.2]; omega, by rw [q1.2]; omega, by rw [q2.2]; omega, by rw [q2.2]; omega⟩

theorem halves_plain {pg wd : Int} {nd : NodeD} (hr : right pg wd = true) (h1 : pg - 32 < sizeE pg wd nd) (h2 : sizeE pg wd nd ≤ pg - 32 + 2 * ((pg - 30) / 3)) :
    splitE pg wd nd = 0 ∧ HalvesP pg wd (splitL pg wd nd) (splitR pg wd nd) := by
  have hc : checkE pg wd nd = 0 := by
    by_cases h : checkE pg wd nd = 0
    · exact h
    · rw [sizeE, if_neg h] at h1
      have := right_page hr
      omega
  by_cases hk : leafD nd
  · exact halves_plain_leaf hr hc hk h1 h2
  · exact halves_plain_branch hr hc hk h1 h2

end Go.Proofs.Ytajkoeodabmgeaa
end

section
namespace Go.Proofs.Ytajkoeodabmgeaa
open Go.RowKit
set_option maxHeartbeats 2000000
set_option maxRecDepth 100000
attribute [local go_sem] grow_cell grow_frozen grow_size

/-- A drawn region whose orders end in like states: walked for itself, the rest once. -/
theorem region_mid {P : Program} {c : Code} {Q : Exit → Act → World → Prop} {a : Act} {w : World} {α : Type} (F : α → Act → Act) (G : α → World → Prop)
    (h1 : c.wp P (fun e a' w' => ∃ x, e = .normal ∧ a' = F x a ∧ G x w') a w) (h2 : ∀ x w', G x w' → Q .normal (F x a) w') : c.wp P Q a w :=
  wp_mono h1 (by rintro e a' w' ⟨x, rfl, rfl, hG⟩; exact h2 x w' hG)

structure SplitX where
  b : VH
  x : VH
  y : VH
  g : Nat

abbrev cells7 (x : VH) (l : NodeD) (s : ByteArray) (y : VH) (r : NodeD) : Array Value :=
  #[.slice x.A0 l.pairs.length x.c0, .slice x.A1 l.seps.length x.c1, .slice x.A2 l.kids.length x.c2, .string s, .slice y.A0 r.pairs.length y.c0, .slice y.A1 r.seps.length y.c1, .slice y.A2 r.kids.length y.c2]

/-- After the region 'h, e := Split(f, lent(n))': the halves in their box, to be read. -/
structure SplitG (w w0 : World) (B : Nat) (pg wd : Int) (nd : NodeD) (X : SplitX) (W : World) : Prop where
  bl : Below B w0 W
  row : W.heap[X.g]? = some (.cells (cells7 X.x (splitL pg wd nd) (splitS pg wd nd) X.y (splitR pg wd nd)) 54 (0, 0))
  lo : B ≤ X.g
  l : RdN W X.x.A0 X.x.c0 X.x.A1 X.x.c1 X.x.A2 X.x.c2 (splitL pg wd nd)
  r : RdN W X.y.A0 X.y.c0 X.y.A1 X.y.c1 X.y.A2 X.y.c2 (splitR pg wd nd)

theorem OwN.setRow' {w : World} {lo hi : Nat} {A0 A1 A2 : Option Addr} {c0 c1 c2 : Nat} {nd : NodeD} (h : OwN w lo hi A0 c0 A1 c1 A2 c2 nd) (g : Nat) (cs : Array Value) (hg : g < lo ∨ hi ≤ g) : OwN (w.setRow g cs) lo hi A0 c0 A1 c1 A2 c2 nd :=
  h.kept (S := fun k => k = g) ⟨rfl, rfl, rfl, by simp [World.setRow], fun k _ hs => setRow_other _ _ _ _ hs⟩ (fun k h1 h2 h3 => by omega)
theorem OwN.top {w : World} {lo hi : Nat} {A0 A1 A2 : Option Addr} {c0 c1 c2 : Nat} {nd : NodeD} (h : OwN w lo hi A0 c0 A1 c1 A2 c2 nd) : OwN w lo w.heap.size A0 c0 A1 c1 A2 c2 nd :=
  { h with u0 := fun k hk => own_lt h.pairs k hk, u1 := fun k hk => own_lt h.seps k hk, u2 := fun k hk => own_lt h.kids k hk }

theorem splitG_store {w w0 W : World} {B : Nat} {pg wd : Int} {nd : NodeD} (b x y : VH) (g : Nat) {l1 h1 l2 h2 : Nat} (hb : Below B w0 W) {old : Array Value} (hrow : W.heap[g]? = some (.cells old 54 (0, 0))) (hlo : B ≤ g)
    (hx : VH.own x W l1 h1 (splitL pg wd nd)) (hxg : g < l1 ∨ h1 ≤ g) (hy : VH.own y W l2 h2 (splitR pg wd nd)) (hyg : g < l2 ∨ h2 ≤ g) :
    SplitG w w0 B pg wd nd ⟨b, x, y, g⟩ (W.setRow g (cells7 x (splitL pg wd nd) (splitS pg wd nd) y (splitR pg wd nd))) :=
  ⟨below_setRow hb hlo _, setRow_block _ _ _ _ _ _ hrow, hlo, (OwN.setRow' hx g _ hxg).rd, (OwN.setRow' hy g _ hyg).rd⟩

end Go.Proofs.Ytajkoeodabmgeaa
end
