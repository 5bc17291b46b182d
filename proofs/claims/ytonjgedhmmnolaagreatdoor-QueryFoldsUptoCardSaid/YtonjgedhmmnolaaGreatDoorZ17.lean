import Derived.Test.YtonjgedhmmnolaaGreatDoorZ14

section
namespace Go.Proofs.YtonjgedhmmnolaaGreatDoor
open Go.RowKit
set_option maxHeartbeats 1000000
set_option maxRecDepth 100000

theorem cmpZ_neg (a b : Int) : cmpZ b a = -cmpZ a b := by
  rcases cmpZ_cases a b with ⟨h, e⟩ | ⟨h, h', e⟩ | ⟨h, h', e⟩ <;> rcases cmpZ_cases b a with ⟨k, e'⟩ | ⟨k, k', e'⟩ | ⟨k, k', e'⟩ <;> rw [e, e'] <;> omega
theorem cmpZ_le {a b : Int} : cmpZ a b ≤ 0 ↔ a ≤ b := by
  rcases cmpZ_cases a b with ⟨h, e⟩ | ⟨h, h', e⟩ | ⟨h, h', e⟩ <;> rw [e] <;> omega
theorem cmpB_neg : ∀ a b : List UInt8, Lib.compareBytes b a = -Lib.compareBytes a b
  | [], [] => rfl
  | [], _ :: _ => rfl
  | _ :: _, [] => rfl
  | a :: as_, b :: bs => by
    simp only [Lib.compareBytes]
    by_cases h : a < b
    · have h' : ¬ b < a := fun h2 => absurd (UInt8.lt_trans h h2) (UInt8.lt_irrefl a)
      rw [if_neg h', if_pos h, if_pos h]; decide
    · by_cases h' : b < a
      · rw [if_pos h', if_neg h, if_pos h']
      · rw [if_neg h', if_neg h, if_neg h, if_neg h']; exact cmpB_neg as_ bs
theorem cmpB_trans : ∀ a b c : List UInt8, Lib.compareBytes a b ≤ 0 → Lib.compareBytes b c ≤ 0 → Lib.compareBytes a c ≤ 0
  | [], _, [], _, _ => by simp [Lib.compareBytes]
  | [], _, _ :: _, _, _ => by simp [Lib.compareBytes]
  | _ :: _, [], _, h, _ => by simp [Lib.compareBytes] at h
  | _ :: _, _ :: _, [], _, h => by simp [Lib.compareBytes] at h
  | a :: as_, b :: bs, c :: cs, h1, h2 => by
    simp only [Lib.compareBytes] at h1 h2 ⊢
    have e1 : a < b ∨ (¬ a < b ∧ ¬ b < a ∧ Lib.compareBytes as_ bs ≤ 0) := by
      by_cases h : a < b
      · exact .inl h
      · rw [if_neg h] at h1
        by_cases h' : b < a
        · rw [if_pos h'] at h1; omega
        · rw [if_neg h'] at h1; exact .inr ⟨h, h', h1⟩
    have e2 : b < c ∨ (¬ b < c ∧ ¬ c < b ∧ Lib.compareBytes bs cs ≤ 0) := by
      by_cases h : b < c
      · exact .inl h
      · rw [if_neg h] at h2
        by_cases h' : c < b
        · rw [if_pos h'] at h2; omega
        · rw [if_neg h'] at h2; exact .inr ⟨h, h', h2⟩
    simp only [UInt8.lt_iff_toNat_lt] at e1 e2 ⊢
    by_cases h : a.toNat < c.toNat
    · rw [if_pos h]; decide
    · rw [if_neg h]
      rcases e1 with e1 | ⟨e1, e1', l1⟩
      · rcases e2 with e2 | ⟨e2, e2', l2⟩ <;> omega
      · rcases e2 with e2 | ⟨e2, e2', l2⟩
        · omega
        · rw [if_neg (by omega)]; exact cmpB_trans as_ bs cs l1 l2
theorem ord_neg (s : Nat) : (∀ a b : ItemD, SizeOf.sizeOf a ≤ s → ordI b a = -ordI a b) ∧ (∀ l m : List ItemD, SizeOf.sizeOf l ≤ s → ordL m l = -ordL l m) := by
  induction s with
  | zero => exact ⟨fun a b h => by cases a; simp at h, fun l m h => by cases l <;> simp at h⟩
  | succ s ih =>
    refine ⟨fun a b h => ?_, fun l m h => ?_⟩
    · rcases a with ⟨k, x, n, f, t, l⟩
      rcases b with ⟨k', x', n', f', t', l'⟩
      rw [ordI, ordI]
      by_cases hk : k = k'
      · subst hk
        simp only [ne_eq, not_true_eq_false, if_false]
        by_cases h2 : k = 2
        · rw [if_pos h2, if_pos h2]; omega
        · rw [if_neg h2, if_neg h2]
          by_cases h3 : k = 3
          · rw [if_pos h3, if_pos h3]; exact cmpZ_neg _ _
          · rw [if_neg h3, if_neg h3]
            by_cases h4 : k = 4
            · rw [if_pos h4, if_pos h4]; exact cmpZ_neg _ _
            · rw [if_neg h4, if_neg h4]
              by_cases h5 : k = 5
              · rw [if_pos h5, if_pos h5]; exact cmpB_neg _ _
              · rw [if_neg h5, if_neg h5]
                exact ih.2 l l' (by simp at h; omega)
      · rw [if_pos (fun e => hk e.symm), if_pos hk]; exact cmpZ_neg _ _
    · rcases l with _ | ⟨x, l⟩ <;> rcases m with _ | ⟨y, m⟩
      · rfl
      · rfl
      · rfl
      · simp at h
        have h1 := ih.1 x y (by omega)
        have h2 := ih.2 l m (by omega)
        rw [ordL, ordL]
        by_cases h0 : ordI x y = 0
        · rw [if_neg (by rw [h1, h0]; decide), if_neg (by omega)]; exact h2
        · rw [if_pos (by rw [h1]; omega), if_pos h0]; exact h1
theorem ordI_neg (a b : ItemD) : ordI b a = -ordI a b := (ord_neg _).1 a b (Nat.le_refl _)
theorem ordL_neg (a b : List ItemD) : ordL b a = -ordL a b := (ord_neg _).2 a b (Nat.le_refl _)
theorem ord_trans (s : Nat) : (∀ a b c : ItemD, SizeOf.sizeOf a + SizeOf.sizeOf b + SizeOf.sizeOf c ≤ s → ordI a b ≤ 0 → ordI b c ≤ 0 → ordI a c ≤ 0) ∧
    (∀ a b c : List ItemD, SizeOf.sizeOf a + SizeOf.sizeOf b + SizeOf.sizeOf c ≤ s → ordL a b ≤ 0 → ordL b c ≤ 0 → ordL a c ≤ 0) := by
  induction s with
  | zero => exact ⟨fun a b c h => by cases a; simp at h, fun a b c h => by cases a <;> simp at h⟩
  | succ s ih =>
    refine ⟨fun a b c h h1 h2 => ?_, fun a b c h h1 h2 => ?_⟩
    · rcases a with ⟨k, x, n, f, t, l⟩
      rcases b with ⟨k', x', n', f', t', l'⟩
      rcases c with ⟨k2, x2, n2, f2, t2, l2⟩
      rw [ordI] at h1 h2 ⊢
      by_cases hk : k = k'
      · by_cases hk2 : k' = k2
        · subst hk hk2
          simp only [ne_eq, not_true_eq_false, if_false] at h1 h2 ⊢
          by_cases c2 : k = 2
          · simp only [if_pos c2] at h1 h2 ⊢; omega
          · simp only [if_neg c2] at h1 h2 ⊢
            by_cases c3 : k = 3
            · simp only [if_pos c3] at h1 h2 ⊢; rw [cmpZ_le] at h1 h2 ⊢; omega
            · simp only [if_neg c3] at h1 h2 ⊢
              by_cases c4 : k = 4
              · simp only [if_pos c4] at h1 h2 ⊢; rw [cmpZ_le] at h1 h2 ⊢; omega
              · simp only [if_neg c4] at h1 h2 ⊢
                by_cases c5 : k = 5
                · simp only [if_pos c5] at h1 h2 ⊢; exact cmpB_trans _ _ _ h1 h2
                · simp only [if_neg c5] at h1 h2 ⊢
                  exact ih.2 l l' l2 (by simp at h; omega) h1 h2
        · subst hk
          rw [if_pos hk2] at h2 ⊢
          exact h2
      · rw [if_pos hk, cmpZ_le] at h1
        by_cases hk2 : k' = k2
        · subst hk2
          rw [if_pos hk, cmpZ_le]; exact h1
        · rw [if_pos hk2, cmpZ_le] at h2
          rw [if_pos (by omega), cmpZ_le]; omega
    · rcases a with _ | ⟨x, a⟩ <;> rcases c with _ | ⟨z, c⟩
      · simp [ordL]
      · simp [ordL]
      · rcases b with _ | ⟨y, b⟩
        · simp [ordL] at h1
        · simp [ordL] at h2
      · rcases b with _ | ⟨y, b⟩
        · simp [ordL] at h1
        · simp at h
          rw [ordL] at h1 h2 ⊢
          have t1 := ih.1 x y z (by omega)
          have t2 := ih.1 z x y (by omega)
          have t3 := ih.1 y z x (by omega)
          have t4 := ih.2 a b c (by omega)
          have n1 := ordI_neg x y
          have n2 := ordI_neg y z
          have n3 := ordI_neg z x
          by_cases c1 : ordI x y = 0
          · rw [if_neg (by omega)] at h1
            by_cases c2 : ordI y z = 0
            · rw [if_neg (by omega)] at h2
              have h3 := t1 (by omega) (by omega)
              have u1 := ih.1 z y x (by omega) (by omega) (by omega)
              rw [if_neg (by omega)]
              exact t4 h1 h2
            · rw [if_pos (by omega)] at h2
              have h3 := t1 (by omega) (by omega)
              by_cases c3 : ordI x z = 0
              · have := t2 (by omega) (by omega); omega
              · rw [if_pos c3]; exact h3
          · rw [if_pos c1] at h1
            have hyz : ordI y z ≤ 0 := by
              by_cases c2 : ordI y z = 0
              · omega
              · rw [if_pos c2] at h2; exact h2
            have h3 := t1 h1 hyz
            by_cases c3 : ordI x z = 0
            · have := t3 hyz (by omega); omega
            · rw [if_pos c3]; exact h3
theorem ordI_trans {a b c : ItemD} (h1 : ordI a b ≤ 0) (h2 : ordI b c ≤ 0) : ordI a c ≤ 0 := (ord_trans _).1 a b c (Nat.le_refl _) h1 h2
theorem ordI_refl (a : ItemD) : ordI a a = 0 := by have := ordI_neg a a; omega

end Go.Proofs.YtonjgedhmmnolaaGreatDoor
end

section
namespace Go.Proofs.YtonjgedhmmnolaaGreatDoor
open Go.RowKit
set_option maxHeartbeats 1000000
set_option maxRecDepth 100000

/-- What is well formed behind many items is so behind fewer. -/
theorem walk_low (s : Nat) : (∀ (x : ItemD) (d m m' : Nat), SizeOf.sizeOf x ≤ s → m' ≤ m → (walkI x d m).2 = 0 → (walkI x d m').2 = 0 ∧ (walkI x d m').1 ≤ (walkI x d m).1) ∧
    (∀ (l : List ItemD) (d m m' : Nat), SizeOf.sizeOf l ≤ s → m' ≤ m → (walkL l d m).2 = 0 → (walkL l d m').2 = 0 ∧ (walkL l d m').1 ≤ (walkL l d m).1) := by
  induction s with
  | zero => exact ⟨fun x d m m' h => by cases x; simp at h, fun l d m m' h => by cases l <;> simp at h⟩
  | succ s ih =>
    refine ⟨fun x d m m' h hm h0 => ?_, fun l d m m' h hm h0 => ?_⟩
    · rcases x with ⟨k, b, n, f, t, l⟩
      rw [walkI] at h0 ⊢
      rw [walkI]
      by_cases c1 : 64 ≤ m
      · rw [if_pos c1] at h0; cases h0
      · rw [if_neg c1] at h0 ⊢
        rw [if_neg (by omega)]
        by_cases c2 : (!mayN k b n f t l.length) = true
        · rw [if_pos c2] at h0; cases h0
        · rw [if_neg c2] at h0 ⊢
          rw [if_neg c2]
          by_cases c3 : k = 6 ∧ 8 ≤ d
          · rw [if_pos c3] at h0; cases h0
          · rw [if_neg c3] at h0 ⊢
            rw [if_neg c3]
            exact ih.2 l (d + 1) (m + 1) (m' + 1) (by simp at h; omega) (by omega) h0
    · rcases l with _ | ⟨x, l⟩
      · rw [walkL_nil, walkL_nil]; exact ⟨rfl, hm⟩
      · simp at h
        rw [walkL_cons] at h0
        rw [walkL_cons, walkL_cons]
        by_cases c1 : (walkI x d m).2 = 0
        · rw [if_pos c1] at h0 ⊢
          obtain ⟨e1, e2⟩ := ih.1 x d m m' (by omega) hm c1
          rw [if_pos e1]
          exact ih.2 l d _ _ (by omega) e2 h0
        · rw [if_neg c1] at h0; exact absurd h0 c1
theorem chk_each {l : List ItemD} {x : ItemD} (h : chkL l = 0) (hx : x ∈ l) : chkL [x] = 0 := by
  unfold chkL at h ⊢
  by_cases h1 : (walkL l 0 0).2 = 0
  · rw [if_neg (by omega)] at h
    obtain ⟨a, b, rfl⟩ := List.append_of_mem hx
    have hs : sizeI x ≤ sizeL (a ++ x :: b) := by rw [sizeL_app, sizeL]; omega
    rw [walkL_app] at h1
    by_cases h2 : (walkL a 0 0).2 = 0
    · rw [if_pos h2, walkL_cons] at h1
      by_cases h3 : (walkI x 0 (walkL a 0 0).1).2 = 0
      · have h4 := ((walk_low _).1 x 0 (walkL a 0 0).1 0 (Nat.le_refl _) (by omega) h3).1
        have h5 : (walkL [x] 0 0).2 = 0 := by rw [walkL_cons, if_pos h4, walkL_nil]
        rw [if_neg (by omega), sizeL_one, if_neg (by
          by_cases h6 : 4096 < sizeL (a ++ x :: b)
          · rw [if_pos h6] at h; cases h
          · omega)]
      · rw [if_neg h3] at h1; exact absurd h1 h3
    · rw [if_neg h2] at h1; exact absurd h1 h2
  · rw [if_pos h1] at h; exact absurd h h1
section
variable {pg wd : Int} {t : TabD} {lo hi : List UInt8}
theorem rowR_chk {kb vb : List UInt8} {n : Nat} {r : List ItemD} (h : rowR pg wd t kb vb = (some r, n)) : ∀ x ∈ r, chkL [x] = 0 := by
  unfold rowR at h
  split at h
  · injection h with h1; cases h1
  · next hc =>
    split at h
    · split at h
      · injection h with h1; cases h1
      · split at h
        · injection h with h1; cases h1
        · next h3 =>
          injection h with h1 h2
          injection h1 with h1
          have hk : (keyR pg wd t (r.take t.keys.toNat)).2 = 0 := by rw [← h1]; apply Classical.byContradiction; intro hh; exact h3 (.inl hh)
          have hv : (valR pg wd t r).2 = 0 := by rw [← h1]; apply Classical.byContradiction; intro hh; exact h3 (.inr (.inl hh))
          unfold keyR at hk
          rw [if_neg hc] at hk
          unfold valR at hv
          rw [if_neg hc] at hv
          have hk2 : chkL (underL t (r.take t.keys.toNat)) = 0 := by
            split at hk
            · cases hk
            · split at hk
              · cases hk
              · next h5 => apply Classical.byContradiction; intro hh; exact h5 (.inl hh)
          have hv2 : chkL (r.drop t.keys.toNat) = 0 := by
            split at hv
            · cases hv
            · split at hv
              · cases hv
              · next h5 => apply Classical.byContradiction; intro hh; exact h5 (.inl hh)
          intro x hx
          rw [← List.take_append_drop t.keys.toNat r] at hx
          rcases List.mem_append.1 hx with hx | hx
          · exact chk_each hk2 (by unfold underL; exact List.mem_cons_of_mem _ hx)
          · exact chk_each hv2 hx
    · injection h with h1; cases h1
theorem rowR_251 {kb vb : List UInt8} {n : Nat} (hc : chkT pg wd t = 0) (h : rowR pg wd t kb vb = (none, n)) : n = 251 := by
  unfold rowR at h
  rw [if_neg (by omega)] at h
  split at h
  · split at h
    · injection h with _ h2; exact h2.symm
    · split at h
      · injection h with _ h2; exact h2.symm
      · injection h with h1; cases h1
  · injection h with _ h2; exact h2.symm
/-- Is a pair in the range? -/
def inB (lo hi : List UInt8) (p : ByteArray × ByteArray) : Bool := !ltB p.1.data.toList lo && ltB p.1.data.toList hi
def rowsOf (pg wd : Int) (t : TabD) (lo hi : List UInt8) (l : List (ByteArray × ByteArray)) : List (List ItemD) :=
  l.filterMap fun p => if inB lo hi p = true then (rowR pg wd t p.1.data.toList p.2.data.toList).1 else none
theorem inB_not {p : ByteArray × ByteArray} : (ltB p.1.data.toList lo = true ∨ ltB p.1.data.toList hi = false) ↔ inB lo hi p = false := by
  unfold inB
  cases ltB p.1.data.toList lo <;> cases ltB p.1.data.toList hi <;> simp
theorem rowsA_iff (l : List (ByteArray × ByteArray)) : ∀ acc : List (List ItemD),
    (∀ R m, rowsA pg wd t lo hi acc l = (some R, m) → R = acc ++ rowsOf pg wd t lo hi l ∧ ∀ p ∈ l, inB lo hi p = true → (rowR pg wd t p.1.data.toList p.2.data.toList).1.isSome = true) ∧
    ((∀ p ∈ l, inB lo hi p = true → (rowR pg wd t p.1.data.toList p.2.data.toList).1.isSome = true) → ∃ R m, rowsA pg wd t lo hi acc l = (some R, m)) ∧
    (chkT pg wd t = 0 → ∀ m, rowsA pg wd t lo hi acc l = (none, m) → m = 251) := by
  induction l with
  | nil => intro acc; exact ⟨fun R m h => by rw [rowsA] at h; injection h with h1; injection h1 with h1; exact ⟨by rw [← h1]; simp [rowsOf], by simp⟩, fun _ => ⟨acc, 0, by rw [rowsA]⟩, fun _ m h => by rw [rowsA] at h; injection h with h1; cases h1⟩
  | cons p l ih =>
    intro acc
    by_cases hin : inB lo hi p = false
    · have hr : rowsA pg wd t lo hi acc (p :: l) = rowsA pg wd t lo hi acc l := by rw [rowsA, if_pos (inB_not.2 hin)]
      have ho : rowsOf pg wd t lo hi (p :: l) = rowsOf pg wd t lo hi l := by unfold rowsOf; rw [List.filterMap_cons]; simp [hin]
      rw [hr, ho]
      obtain ⟨i1, i2, i3⟩ := ih acc
      refine ⟨fun R m h => ⟨(i1 R m h).1, fun q hq hqi => ?_⟩, fun h => i2 fun q hq => h q (List.mem_cons_of_mem _ hq), i3⟩
      rcases List.mem_cons.1 hq with rfl | hq
      · rw [hin] at hqi; cases hqi
      · exact (i1 R m h).2 q hq hqi
    · have hin' : inB lo hi p = true := by simpa using hin
      have hneg : ¬ (ltB p.1.data.toList lo = true ∨ ltB p.1.data.toList hi = false) := fun h => hin (inB_not.1 h)
      cases hrr : rowR pg wd t p.1.data.toList p.2.data.toList with
      | mk o n =>
        cases o with
        | none =>
          have hr : rowsA pg wd t lo hi acc (p :: l) = (none, n) := by rw [rowsA, if_neg hneg, hrr]
          rw [hr]
          refine ⟨fun R m h => (by injection h with h1; cases h1), fun h => ?_, fun hc m h => (by injection h with _ h2; rw [← h2]; exact rowR_251 hc hrr)⟩
          have := h p (List.mem_cons_self ..) hin'
          rw [hrr] at this
          cases this
        | some r =>
          have hr : rowsA pg wd t lo hi acc (p :: l) = rowsA pg wd t lo hi (acc ++ [r]) l := by rw [rowsA, if_neg hneg, hrr]
          have ho : rowsOf pg wd t lo hi (p :: l) = r :: rowsOf pg wd t lo hi l := by unfold rowsOf; rw [List.filterMap_cons]; simp [hin', hrr]
          rw [hr, ho]
          obtain ⟨i1, i2, i3⟩ := ih (acc ++ [r])
          refine ⟨fun R m h => ⟨by rw [(i1 R m h).1]; simp, fun q hq hqi => ?_⟩, fun h => i2 fun q hq => h q (List.mem_cons_of_mem _ hq), i3⟩
          rcases List.mem_cons.1 hq with rfl | hq
          · rw [hrr]; rfl
          · exact (i1 R m h).2 q hq hqi
theorem rowsOf_chk {l : List (ByteArray × ByteArray)} {r : List ItemD} (h : r ∈ rowsOf pg wd t lo hi l) : ∀ x ∈ r, chkL [x] = 0 := by
  unfold rowsOf at h
  obtain ⟨p, _, hp⟩ := List.mem_filterMap.1 h
  split at hp
  · cases hrr : rowR pg wd t p.1.data.toList p.2.data.toList with
    | mk o n =>
      rw [hrr] at hp
      simp only at hp
      subst hp
      exact rowR_chk hrr
  · cases hp
theorem rowsOf_cols {l : List (ByteArray × ByteArray)} {r : List ItemD} (h : r ∈ rowsOf pg wd t lo hi l) : r.length = t.cols.length := by
  unfold rowsOf at h
  obtain ⟨p, _, hp⟩ := List.mem_filterMap.1 h
  split at hp
  · cases hrr : rowR pg wd t p.1.data.toList p.2.data.toList with
    | mk o n =>
      rw [hrr] at hp
      simp only at hp
      subst hp
      exact (rowR_cols hrr).2
  · cases hp
theorem rowsOf_reverse (l : List (ByteArray × ByteArray)) : rowsOf pg wd t lo hi l.reverse = (rowsOf pg wd t lo hi l).reverse := by
  unfold rowsOf; rw [List.filterMap_reverse]
end
theorem cmpI_ord {a b : ItemD} (ha : chkL [a] = 0) (hb : chkL [b] = 0) : cmpI a b = ordI a b := by
  unfold cmpI
  rw [if_neg (by omega)]
theorem bestD_mem (p : Int → Bool) (m : ItemD) (l : List ItemD) : bestD p m l = m ∨ bestD p m l ∈ l := by
  induction l generalizing m with
  | nil => exact .inl rfl
  | cons y l ih =>
    rw [bestD]
    rcases ih (if p (cmpI y m) = true then y else m) with h | h
    · by_cases hp : p (cmpI y m) = true
      · rw [if_pos hp] at h ⊢; right; rw [h]; simp
      · rw [if_neg hp] at h ⊢; left; exact h
    · right; simp [h]
theorem bestD_least (m : ItemD) (l : List ItemD) (hm : chkL [m] = 0) (hl : ∀ x ∈ l, chkL [x] = 0) : ∀ x, x = m ∨ x ∈ l → ordI (bestD (fun i => decide (i < 0)) m l) x ≤ 0 := by
  induction l generalizing m with
  | nil => intro x hx; rcases hx with rfl | hx
           · rw [bestD, ordI_refl]; decide
           · simp at hx
  | cons y l ih =>
    intro x hx
    have hy := hl y (List.mem_cons_self ..)
    have hl' : ∀ x ∈ l, chkL [x] = 0 := fun x h => hl x (List.mem_cons_of_mem _ h)
    rw [bestD]
    by_cases hp : cmpI y m < 0
    · simp only [hp, decide_true, if_true]
      have i := ih y hy hl'
      rcases hx with rfl | hx
      · have h1 := i y (.inl rfl)
        rw [cmpI_ord hy hm] at hp
        exact ordI_trans h1 (by omega)
      · rcases List.mem_cons.1 hx with rfl | hx
        · exact i _ (.inl rfl)
        · exact i x (.inr hx)
    · simp only [hp, decide_false]
      have i := ih m hm hl'
      rcases hx with rfl | hx
      · exact i _ (.inl rfl)
      · rcases List.mem_cons.1 hx with rfl | hx
        · have h1 := i m (.inl rfl)
          rw [cmpI_ord hy hm] at hp
          have := ordI_neg x m
          exact ordI_trans h1 (by omega)
        · exact i x (.inr hx)
/-- The least is not above the most. -/
theorem end_le (l : List ItemD) (hl : ∀ x ∈ l, chkL [x] = 0) : cmpI (endD (fun i => decide (i < 0)) l) (endD (fun i => decide (0 < i)) l) ≤ 0 := by
  cases l with
  | nil => show cmpI nullV.data nullV.data ≤ 0; decide
  | cons m l =>
    have hm := hl m (List.mem_cons_self ..)
    have hl' : ∀ x ∈ l, chkL [x] = 0 := fun x h => hl x (List.mem_cons_of_mem _ h)
    have c : ∀ p, chkL [bestD p m l] = 0 := fun p => by
      rcases bestD_mem p m l with h | h
      · rw [h]; exact hm
      · exact hl' _ h
    rw [endD, endD, cmpI_ord (c _) (c _)]
    exact bestD_least m l hm hl' _ (bestD_mem _ m l)

end Go.Proofs.YtonjgedhmmnolaaGreatDoor
end

section
namespace Go.Proofs.YtonjgedhmmnolaaGreatDoor
open Go.RowKit
set_option maxHeartbeats 1000000
set_option maxRecDepth 100000

/-- A question to all rows with a fold. -/
def QryV.folded (q : QryV) (fold : Int) (over : ByteArray) : QryV := ⟨q.table, q.fr, q.tt, q.wh, [], q.down, 0, fold, over, q.AF, q.cF, q.AT, q.cT, q.AW, q.cW, none, 0⟩
theorem findL_spec (l : List ColD) (s : List UInt8) : ∀ i, (∃ c ∈ l, c.name.data.toList = s) → ∃ (j : Nat) (h : j < l.length), findL l s i = ((i + j : Nat) : Int) ∧ l[j].name.data.toList = s ∧ ∀ (k : Nat) (hk : k < j), l[k].name.data.toList ≠ s := by
  induction l with
  | nil => intro i h; obtain ⟨c, hc, _⟩ := h; simp at hc
  | cons x l ih =>
    intro i h
    rw [findL]
    by_cases hx : x.name.data.toList = s
    · rw [if_pos hx]
      exact ⟨0, by simp, by simp, hx, fun k hk => absurd hk (by omega)⟩
    · rw [if_neg hx]
      obtain ⟨c, hc, hn⟩ := h
      have hc' : c ∈ l := by
        rcases List.mem_cons.1 hc with rfl | hc
        · exact absurd hn hx
        · exact hc
      obtain ⟨j, hj, e1, e2, e3⟩ := ih (i + 1) ⟨c, hc', hn⟩
      refine ⟨j + 1, by simp; omega, by rw [e1]; congr 1; omega, by simpa using e2, fun k hk => ?_⟩
      rcases k with _ | k
      · exact hx
      · simpa using e3 k (by omega)
theorem shaped_names {t : TabD} (h : shapedB t = true) {i j : Nat} (hi : i < t.cols.length) (hj : j < t.cols.length) (hij : i < j) : t.cols[i].name.data.toList ≠ t.cols[j].name.data.toList := by
  intro e
  have hall : ∀ k, k < t.cols.length → shapedAt t k = true := by
    intro k hk
    unfold shapedB at h
    rw [Bool.and_eq_true, List.all_eq_true] at h
    exact h.2 k (List.mem_range.2 hk)
  have h1 := hall j hj
  unfold shapedAt at h1
  rw [List.getElem?_eq_getElem hj] at h1
  simp only [Bool.and_eq_true, Bool.not_eq_true', List.any_eq_false, beq_iff_eq] at h1
  exact h1.1.1.1.2 t.cols[i] (List.mem_iff_getElem.2 ⟨i, by rw [List.length_take]; omega, by rw [List.getElem_take]⟩) e
theorem find_kind {t : TabD} (h : shapedB t = true) {c : ColD} {s : ByteArray} (hc : c ∈ t.cols) (hn : c.name.data.toList = s.data.toList) : kindAt t (findC t s) = c.kind := by
  obtain ⟨i, hi, rfl⟩ := List.mem_iff_getElem.1 hc
  obtain ⟨j, hj, e1, e2, e3⟩ := findL_spec t.cols s.data.toList 0 ⟨t.cols[i], hc, hn⟩
  have hij : i = j := by
    rcases Nat.lt_trichotomy i j with h2 | h2 | h2
    · exact absurd hn (e3 i h2)
    · exact h2
    · exact absurd (e2.trans hn.symm) (shaped_names h hj hi h2)
  subst hij
  unfold kindAt findC
  rw [e1, Nat.zero_add, Int.toNat_natCast, List.getElem?_eq_getElem hi]
section
variable {pg wd : Int} {t : TabD} {q : QryV} {P : List (ByteArray × ByteArray)}
theorem span_err {q : QryV} (h : chkQ pg wd t q ≠ 0) : (spanR pg wd t q).2.2 = chkQ pg wd t q := by
  unfold spanR; rw [if_pos h]
theorem pick_bad {q : QryV} (h : chkQ pg wd t q ≠ 0) {out : List (List ItemD)} {n : Nat} (hp : PickOk pg wd t q P out n) : out = [] ∧ n = chkQ pg wd t q := by
  unfold PickOk at hp
  have e := span_err h
  rw [if_pos (by rw [e]; exact h), e] at hp
  exact hp
/-- What a question to all rows with a fold comes to. -/
theorem pick_fold {q : QryV} (hc : chkQ pg wd t q = 0) (h2 : 2 ≤ q.fold) {out : List (List ItemD)} {n : Nat} (hp : PickOk pg wd t q P out n) :
    (∃ R m, rowsA pg wd t (spanR pg wd t q).1 (spanR pg wd t q).2.1 [] P = (some R, m) ∧ ∃ y, FoldOk (kindAt t (findC t q.over)) q.fold (itemsD (findC t q.over).toNat (keptD t q (if q.down = true then R.reverse else R))) y n ∧ out = if n = 0 then [[y]] else []) ∨
    (∃ m, rowsA pg wd t (spanR pg wd t q).1 (spanR pg wd t q).2.1 [] P = (none, m) ∧ out = [] ∧ n = m) := by
  unfold PickOk at hp
  rw [if_neg (by rw [spanR_zero hc]; decide)] at hp
  cases hr : rowsA pg wd t (spanR pg wd t q).1 (spanR pg wd t q).2.1 [] P with
  | mk o m =>
    rw [hr] at hp
    cases o with
    | none => exact .inr ⟨m, rfl, hp⟩
    | some R =>
      simp only at hp
      rw [ComeOk, if_neg (by omega), if_pos (by omega)] at hp
      obtain ⟨y, k, h3, rfl, h4⟩ := hp
      exact .inl ⟨R, m, rfl, y, h3, h4⟩
theorem named_over' {q : QryV} (h : namedB t q = true) (hf : 2 ≤ q.fold) : 0 ≤ findC t q.over := named_over h hf
theorem items_chk {rows : List (List ItemD)} {a : Nat} (h : ∀ r ∈ rows, a < r.length ∧ ∀ x ∈ r, chkL [x] = 0) : ∀ x ∈ itemsD a rows, chkL [x] = 0 := by
  intro x hx
  unfold itemsD at hx
  obtain ⟨hx1, _⟩ := List.mem_filter.1 hx
  obtain ⟨r, hr, rfl⟩ := List.mem_map.1 hx1
  obtain ⟨hl, hc⟩ := h r hr
  rw [List.getD_eq_getElem?_getD, List.getElem?_eq_getElem hl]
  exact hc _ (List.getElem_mem hl)
theorem kept_sub {q : QryV} (hl : q.limit = 0) {rows : List (List ItemD)} {r : List ItemD} (h : r ∈ keptD t q (if q.down = true then rows.reverse else rows)) : r ∈ rows := by
  unfold keptD at h
  rw [if_neg (by omega)] at h
  have h1 := (List.mem_filter.1 h).1
  split at h1
  · exact List.mem_reverse.1 h1
  · exact h1
theorem chk_folds (over : ByteArray) : chkQ pg wd t (q.folded 2 over) = chkQ pg wd t (q.folded 3 over) := by
  have hn : namedB t (q.folded 2 over) = namedB t (q.folded 3 over) := rfl
  have h2 : foldsB t (q.folded 2 over) = true := by
    unfold foldsB
    rw [if_neg (by show ¬ (2 : Int) = 0; decide), if_neg (by show ¬ (2 : Int) = 1; decide), if_neg (by show ¬ ((2 : Int) = 4 ∨ (2 : Int) = 5); decide), if_pos (by show (2 : Int) = 2 ∨ (2 : Int) = 3; decide)]
    rfl
  have h3 : foldsB t (q.folded 3 over) = true := by
    unfold foldsB
    rw [if_neg (by show ¬ (3 : Int) = 0; decide), if_neg (by show ¬ (3 : Int) = 1; decide), if_neg (by show ¬ ((3 : Int) = 4 ∨ (3 : Int) = 5); decide), if_pos (by show (3 : Int) = 2 ∨ (3 : Int) = 3; decide)]
    rfl
  have hf : foldsB t (q.folded 2 over) = foldsB t (q.folded 3 over) := h2.trans h3.symm
  unfold chkQ
  rw [hn, hf]
  rfl
/-- The least is not above the most. -/
theorem folds_pair {over : ByteArray} {c d : List (List ItemD)} {n m : Nat} (hc : PickOk pg wd t (q.folded 2 over) P c n) (hd : PickOk pg wd t (q.folded 3 over) P d m) :
    n = m ∧ (n = 0 → ∃ x y, c = [[x]] ∧ d = [[y]] ∧ cmpI x y ≤ 0) := by
  have he := chk_folds (pg := pg) (wd := wd) (t := t) (q := q) over
  by_cases h0 : chkQ pg wd t (q.folded 2 over) = 0
  · have h1 : chkQ pg wd t (q.folded 3 over) = 0 := by rw [← he]; exact h0
    have hs := spanR_same h0 h1 rfl rfl
    obtain ⟨k1, k2, k3, k4, k5, k6, k7, k8⟩ := chkQ_ok h0
    have hov : 0 ≤ findC t over := named_over k5 (by show (2 : Int) ≤ 2; decide)
    have hob := findC_bound t over
    rcases pick_fold h0 (by show (2 : Int) ≤ 2; decide) hc with ⟨R, r, hr, y, hy, ho⟩ | ⟨r, hr, ho, hn⟩
    · rcases pick_fold h1 (by show (2 : Int) ≤ 3; decide) hd with ⟨R', r', hr', y', hy', ho'⟩ | ⟨r', hr', ho', hn'⟩
      · rw [hs, hr] at hr'
        injection hr' with e1 e2
        injection e1 with e1
        subst e1
        have hb2 : FoldOk (kindAt t (findC t over)) 2 (itemsD (findC t over).toNat (keptD t (q.folded 2 over) (if q.down = true then R.reverse else R))) y n := hy
        have hb3 : FoldOk (kindAt t (findC t over)) 3 (itemsD (findC t over).toNat (keptD t (q.folded 2 over) (if q.down = true then R.reverse else R))) y' m := hy'
        rw [FoldOk, if_pos rfl] at hb2
        rw [FoldOk, if_neg (by decide), if_pos rfl] at hb3
        obtain ⟨rfl, rfl⟩ := hb2
        obtain ⟨rfl, rfl⟩ := hb3
        refine ⟨rfl, fun _ => ⟨_, _, by simpa using ho, by simpa using ho', end_le _ (items_chk fun r hr2 => ?_)⟩⟩
        have hmem := kept_sub (q := q.folded 2 over) rfl hr2
        have hR := ((rowsA_iff P []).1 R _ hr).1
        rw [List.nil_append] at hR
        rw [hR] at hmem
        exact ⟨by rw [rowsOf_cols hmem]; omega, rowsOf_chk hmem⟩
      · rw [hs, hr] at hr'
        injection hr' with e1
        cases e1
    · rcases pick_fold h1 (by show (2 : Int) ≤ 3; decide) hd with ⟨R', r', hr', y', hy', ho'⟩ | ⟨r', hr', ho', hn'⟩
      · rw [hs, hr] at hr'
        injection hr' with e1
        cases e1
      · rw [hs, hr] at hr'
        injection hr' with _ e2
        refine ⟨by rw [hn, hn', e2], fun hz => ?_⟩
        exact absurd (hn ▸ hz) (rowsA_err hr)
  · obtain ⟨_, hn⟩ := pick_bad h0 hc
    obtain ⟨_, hm⟩ := pick_bad (by rw [← he]; exact h0) hd
    exact ⟨by rw [hn, hm, he], fun hz => absurd (hn ▸ hz) h0⟩
theorem sumN_reverse (l : List ItemD) : sumN l.reverse = sumN l := by
  induction l with
  | nil => rfl
  | cons x l ih => rw [List.reverse_cons, sumN_app, ih]; simp [sumN]; omega
theorem items_reverse (a : Nat) (rows : List (List ItemD)) : itemsD a rows.reverse = (itemsD a rows).reverse := by
  unfold itemsD; rw [List.map_reverse, List.filter_reverse]
theorem whole_same {l m : List ItemD} (h : sumN l = sumN m) : wholeR l = wholeR m ∧ wholeV l = wholeV m := by
  have e : wholeR l = wholeR m := by unfold wholeR; rw [h]
  exact ⟨e, by unfold wholeV; rw [e]⟩
/-- Sums of whole numbers hang on no order. -/
theorem folds_sum {over : ByteArray} {a b : List (List ItemD)} {n m : Nat} (ha : PickOk pg wd t (q.folded 4 over) P a n) (hb : PickOk pg wd t (q.folded 4 over) P.reverse b m) (hw : ∃ c ∈ t.cols, c.name.data.toList = over.data.toList ∧ c.kind = 3) : n = m ∧ a = b := by
  by_cases h0 : chkQ pg wd t (q.folded 4 over) = 0
  · obtain ⟨k1, k2, k3, k4, k5, k6, k7, k8⟩ := chkQ_ok h0
    obtain ⟨cc, hcc, hcn, hck⟩ := hw
    have hkd : kindAt t (findC t over) = 3 := by rw [find_kind (chkT_ok k1).2 hcc hcn]; exact hck
    have hall : ∀ (A B : List (ByteArray × ByteArray)), (∀ p, p ∈ A → p ∈ B) → (∀ p ∈ B, inB (spanR pg wd t (q.folded 4 over)).1 (spanR pg wd t (q.folded 4 over)).2.1 p = true → (rowR pg wd t p.1.data.toList p.2.data.toList).1.isSome = true) → (∀ p ∈ A, inB (spanR pg wd t (q.folded 4 over)).1 (spanR pg wd t (q.folded 4 over)).2.1 p = true → (rowR pg wd t p.1.data.toList p.2.data.toList).1.isSome = true) := fun A B hs h p hp => h p (hs p hp)
    rcases pick_fold h0 (by show (2 : Int) ≤ 4; decide) ha with ⟨R, r, hr, y, hy, ho⟩ | ⟨r, hr, ho, hn⟩
    · have hp := (rowsA_iff P []).1 R r hr
      rcases pick_fold h0 (by show (2 : Int) ≤ 4; decide) hb with ⟨R', r', hr', y', hy', ho'⟩ | ⟨r', hr', ho', hn'⟩
      · have hp' := (rowsA_iff P.reverse []).1 R' r' hr'
        have hRR : R' = R.reverse := by rw [hp.1, hp'.1, List.nil_append, List.nil_append, rowsOf_reverse]
        have hb2 : FoldOk (kindAt t (findC t over)) 4 (itemsD (findC t over).toNat (keptD t (q.folded 4 over) (if q.down = true then R.reverse else R))) y n := hy
        have hb3 : FoldOk (kindAt t (findC t over)) 4 (itemsD (findC t over).toNat (keptD t (q.folded 4 over) (if q.down = true then R'.reverse else R'))) y' m := hy'
        rw [hkd, FoldOk, if_neg (by decide), if_neg (by decide), if_neg (by decide), if_neg (by decide)] at hb2 hb3
        have hs : sumN (itemsD (findC t over).toNat (keptD t (q.folded 4 over) (if q.down = true then R'.reverse else R'))) = sumN (itemsD (findC t over).toNat (keptD t (q.folded 4 over) (if q.down = true then R.reverse else R))) := by
          have hk : ∀ X : List (List ItemD), keptD t (q.folded 4 over) X = X.filter (keepD t q.wh) := fun X => by unfold keptD; rw [if_neg (by show ¬ (0 : Int) < 0; decide)]; rfl
          rw [hk, hk, hRR]
          cases q.down with
          | true => simp only [if_true, List.reverse_reverse]; rw [List.filter_reverse, items_reverse, sumN_reverse]
          | false => simp only [Bool.false_eq_true, if_false]; rw [List.filter_reverse, items_reverse, sumN_reverse]
        obtain ⟨w1, w2⟩ := whole_same hs
        obtain ⟨rfl, rfl⟩ := hb2
        obtain ⟨rfl, rfl⟩ := hb3
        refine ⟨by rw [w1], ?_⟩
        rw [ho, ho', w1, w2]
      · have h1 := (rowsA_iff (pg := pg) (wd := wd) (t := t) (lo := (spanR pg wd t (q.folded 4 over)).1) (hi := (spanR pg wd t (q.folded 4 over)).2.1) P.reverse []).2.1 (hall _ _ (fun p hp => List.mem_reverse.1 hp) hp.2)
        obtain ⟨R2, m2, e⟩ := h1
        rw [e] at hr'
        injection hr' with e1
        cases e1
    · rcases pick_fold h0 (by show (2 : Int) ≤ 4; decide) hb with ⟨R', r', hr', y', hy', ho'⟩ | ⟨r', hr', ho', hn'⟩
      · have hp' := (rowsA_iff P.reverse []).1 R' r' hr'
        have h1 := (rowsA_iff (pg := pg) (wd := wd) (t := t) (lo := (spanR pg wd t (q.folded 4 over)).1) (hi := (spanR pg wd t (q.folded 4 over)).2.1) P []).2.1 (hall _ _ (fun p hp => List.mem_reverse.2 hp) hp'.2)
        obtain ⟨R2, m2, e⟩ := h1
        rw [e] at hr
        injection hr with e1
        cases e1
      · have e1 := (rowsA_iff P []).2.2 k1 r hr
        have e2 := (rowsA_iff P.reverse []).2.2 k1 r' hr'
        exact ⟨by rw [hn, hn', e1, e2], by rw [ho, ho']⟩
  · obtain ⟨e1, hn⟩ := pick_bad h0 ha
    obtain ⟨e2, hm⟩ := pick_bad h0 hb
    exact ⟨by rw [hn, hm], by rw [e1, e2]⟩
end

end Go.Proofs.YtonjgedhmmnolaaGreatDoor
end
