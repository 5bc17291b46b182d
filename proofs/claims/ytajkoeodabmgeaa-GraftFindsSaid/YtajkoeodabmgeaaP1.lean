import GoSem.Op.String
namespace Go.Proofs.Ytajkoeodabmgeaa
open Go

/-! The order of texts, byte by byte. -/
abbrev lt (a b : List UInt8) : Bool := Op.bytesLess a b

theorem lt_irrefl : ∀ a : List UInt8, lt a a = false
  | [] => rfl
  | x :: a => by simp [lt, Op.bytesLess, lt_irrefl a]
theorem lt_nil (a : List UInt8) : lt a [] = false := by cases a <;> rfl
theorem nil_lt (b : List UInt8) : lt [] b = !b.isEmpty := by cases b <;> rfl
theorem lt_cons (x y : UInt8) (a b : List UInt8) : lt (x :: a) (y :: b) = true ↔ x < y ∨ (x = y ∧ lt a b = true) := by
  simp [lt, Op.bytesLess]
theorem u8_lt_iff (x y : UInt8) : x < y ↔ x.toNat < y.toNat := UInt8.lt_iff_toNat_lt
theorem u8_eq_iff (x y : UInt8) : x = y ↔ x.toNat = y.toNat := UInt8.toNat_inj.symm

theorem lt_trans : ∀ {a b c : List UInt8}, lt a b = true → lt b c = true → lt a c = true
  | a, [], c, h, _ => by rw [lt_nil] at h; cases h
  | a, y :: b, [], _, h => by rw [lt_nil] at h; cases h
  | [], y :: b, z :: c, _, _ => rfl
  | x :: a, y :: b, z :: c, h1, h2 => by
    rw [lt_cons] at h1 h2 ⊢
    rcases h1 with h1 | ⟨rfl, h1⟩ <;> rcases h2 with h2 | ⟨rfl, h2⟩
    · rw [u8_lt_iff] at *; left; omega
    · exact .inl h1
    · exact .inl h2
    · exact .inr ⟨rfl, lt_trans h1 h2⟩

theorem lt_asymm {a b : List UInt8} (h : lt a b = true) : lt b a = false := by
  cases h2 : lt b a with
  | false => rfl
  | true => have := lt_trans h h2; rw [lt_irrefl] at this; cases this

theorem lt_total : ∀ a b : List UInt8, lt a b = true ∨ a = b ∨ lt b a = true
  | [], [] => .inr (.inl rfl)
  | [], _ :: _ => .inl rfl
  | _ :: _, [] => .inr (.inr rfl)
  | x :: a, y :: b => by
    rw [lt_cons, lt_cons]
    rcases Nat.lt_trichotomy x.toNat y.toNat with h | h | h
    · exact .inl (.inl ((u8_lt_iff _ _).2 h))
    · obtain rfl := (u8_eq_iff x y).2 h
      rcases lt_total a b with h | h | h
      · exact .inl (.inr ⟨rfl, h⟩)
      · exact .inr (.inl (by rw [h]))
      · exact .inr (.inr (.inr ⟨rfl, h⟩))
    · exact .inr (.inr (.inl ((u8_lt_iff _ _).2 h)))

theorem not_lt {a b : List UInt8} (h : lt a b = false) : a = b ∨ lt b a = true := by
  rcases lt_total a b with h1 | h1 | h1
  · rw [h] at h1; cases h1
  · exact .inl h1
  · exact .inr h1

/-- `a` not above `b`, `b` below `c`. -/
theorem le_lt {a b c : List UInt8} (h1 : lt b a = false) (h2 : lt b c = true) : lt a c = true := by
  rcases not_lt h1 with rfl | h
  · exact h2
  · exact lt_trans h h2
theorem lt_le {a b c : List UInt8} (h1 : lt a b = true) (h2 : lt c b = false) : lt a c = true := by
  rcases not_lt h2 with rfl | h
  · exact h1
  · exact lt_trans h1 h
theorem le_trans' {a b c : List UInt8} (h1 : lt b a = false) (h2 : lt c b = false) : lt c a = false := by
  cases h : lt c a with
  | false => rfl
  | true => have := lt_le h h1; rw [h2] at this; cases this

/-- How many bytes two texts have alike from the beginning. -/
def lcp : List UInt8 → List UInt8 → Nat
  | x :: a, y :: b => if x = y then lcp a b + 1 else 0
  | _, _ => 0

theorem lcp_le_left : ∀ a b : List UInt8, lcp a b ≤ a.length
  | [], _ => by simp [lcp]
  | _ :: _, [] => by simp [lcp]
  | x :: a, y :: b => by
    unfold lcp
    split
    · have := lcp_le_left a b; simp; omega
    · simp
theorem lcp_lt_right : ∀ {a b : List UInt8}, lt a b = true → lcp a b < b.length
  | a, [], h => by rw [lt_nil] at h; cases h
  | [], _ :: _, _ => by simp [lcp]
  | x :: a, y :: b, h => by
    rw [lt_cons] at h
    unfold lcp
    split
    · rename_i e
      rcases h with h | ⟨_, h⟩
      · subst e; rw [u8_lt_iff] at h; omega
      · have := lcp_lt_right h; simp; omega
    · simp
theorem lcp_step : ∀ (a b : List UInt8) (k : Nat) (ha : k < a.length) (hb : k < b.length), k ≤ lcp a b → (a[k] = b[k] → k + 1 ≤ lcp a b) ∧ (a[k] ≠ b[k] → k = lcp a b)
  | [], _, _, ha, _, _ => by simp at ha
  | _ :: _, [], _, _, hb, _ => by simp at hb
  | x :: a, y :: b, 0, _, _, _ => by
    simp only [List.getElem_cons_zero, lcp]
    constructor
    · intro e; rw [if_pos e]; omega
    · intro e; rw [if_neg e]
  | x :: a, y :: b, k + 1, ha, hb, h => by
    simp only [lcp] at h ⊢
    simp only [List.getElem_cons_succ]
    split at h
    · rename_i e
      rw [if_pos e]
      have := lcp_step a b k (by simpa using ha) (by simpa using hb) (by omega)
      exact ⟨fun h => by have := this.1 h; omega, fun h => by have := this.2 h; omega⟩
    · omega

/-- A beginning of the greater text that is no longer than what both have alike is not above the smaller one; one byte more is. -/
theorem take_lcp : ∀ (a b : List UInt8) (i : Nat), i ≤ lcp a b → lt a (b.take i) = false
  | a, b, 0, _ => by simp [lt_nil]
  | [], b, i + 1, h => by simp [lcp] at h
  | x :: a, [], i + 1, h => by simp [lcp] at h
  | x :: a, y :: b, i + 1, h => by
    unfold lcp at h
    split at h
    · rename_i e
      subst e
      rw [List.take_succ_cons]
      have := take_lcp a b i (by omega)
      cases hc : lt (x :: a) (x :: b.take i) with
      | false => rfl
      | true =>
        rw [lt_cons] at hc
        rcases hc with hc | ⟨_, hc⟩
        · rw [u8_lt_iff] at hc; omega
        · rw [this] at hc; cases hc
    · omega
theorem take_lcp_succ : ∀ {a b : List UInt8}, lt a b = true → lt a (b.take (lcp a b + 1)) = true
  | a, [], h => by rw [lt_nil] at h; cases h
  | [], y :: b, _ => by simp [lcp, lt, Op.bytesLess]
  | x :: a, y :: b, h => by
    rw [List.take_succ_cons, lt_cons]
    rw [lt_cons] at h
    rcases h with h | ⟨rfl, h⟩
    · exact .inl h
    · refine .inr ⟨rfl, ?_⟩
      simp only [lcp, if_true]
      exact take_lcp_succ h
/-- A beginning is not above the whole. -/
theorem take_le : ∀ (b : List UInt8) (i : Nat), lt b (b.take i) = false
  | b, 0 => by simp [lt_nil]
  | [], i + 1 => by simp [lt_nil]
  | y :: b, i + 1 => by
    rw [List.take_succ_cons]
    cases hc : lt (y :: b) (y :: b.take i) with
    | false => rfl
    | true =>
      rw [lt_cons] at hc
      rcases hc with hc | ⟨_, hc⟩
      · rw [u8_lt_iff] at hc; omega
      · rw [take_le b i] at hc; cases hc
theorem take_not_lt {a b : List UInt8} (h : lt a b = false) (i : Nat) : lt a (b.take i) = false :=
  le_trans' (take_le b i) h

/-- The separator between two texts. -/
def sepL (a b : List UInt8) : List UInt8 := b.take (lcp a b + 1)

end Go.Proofs.Ytajkoeodabmgeaa
