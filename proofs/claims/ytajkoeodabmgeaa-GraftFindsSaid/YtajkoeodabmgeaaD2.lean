import Derived.Test.YtajkoeodabmgeaaD1
import Derived.WalkMore
namespace Go.Proofs.Ytajkoeodabmgeaa
open Go.RowKit
set_option maxHeartbeats 2000000
set_option maxRecDepth 100000
attribute [local go_sem] grow_cell grow_frozen grow_size

/-- How many things at the beginning of a list pass a test. -/
def cntW {α : Type} (p : α → Bool) (l : List α) : Nat := (l.takeWhile p).length
theorem cntW_le {α : Type} (p : α → Bool) (l : List α) : cntW p l ≤ l.length := (List.takeWhile_prefix p).length_le
theorem cntW_yes {α : Type} (p : α → Bool) (l : List α) (k : Nat) (h : k < l.length) (hk : k < cntW p l) : p l[k] = true := by
  have h1 : l[k] = (l.takeWhile p)[k] := by
    have := (List.takeWhile_prefix (l := l) p).getElem hk
    exact this.symm
  rw [h1]
  have := List.all_takeWhile (p := p) (l := l)
  rw [List.all_eq_true] at this
  exact this _ (List.getElem_mem _)
theorem cntW_no {α : Type} (p : α → Bool) (l : List α) (h : cntW p l < l.length) : p l[cntW p l] = false := by
  induction l with
  | nil => simp at h
  | cons x l ih =>
    unfold cntW at h ⊢
    cases hx : p x with
    | true =>
      simp only [List.takeWhile_cons, hx, if_true, List.length_cons, List.getElem_cons_succ] at h ⊢
      exact ih (by simpa [cntW] using h)
    | false => simp [hx]

def findI (ps : List PairD) (key : ByteArray) : Nat := cntW (fun p => bl p.k key) ps
def findB (ps : List PairD) (key : ByteArray) : Bool := match ps[findI ps key]? with | some p => p.k.toList == key.toList | none => false
def wayI (ss : List ByteArray) (key : ByteArray) : Nat := cntW (fun s => !bl key s) ss

theorem one_box {w w1 : World} {c d e : Value} (h : Below (w.heap.size + 1) (w.alloc (.cells #[c, d, e] 29)) w1) :
    (w1.cell? ⟨w.heap.size, 0, none⟩ = some c ∧ w1.cell? ⟨w.heap.size, 1, none⟩ = some d ∧ w1.cell? ⟨w.heap.size, 2, none⟩ = some e) ∧ w.heap.size < w1.heap.size := by
  have h0 : w1.heap[w.heap.size]? = some (.cells #[c, d, e] 29 (0, 0)) := (h.block _ (by omega)).trans (heap_alloc_new w _)
  have := h.size
  simp only [World.size_alloc] at this
  exact ⟨⟨cell_of_row _ _ 0 _ _ _ h0, cell_of_row _ _ 1 _ _ _ h0, cell_of_row _ _ 2 _ _ _ h0⟩, by omega⟩

theorem find_c (A0 A1 A2 : Option Addr) (c0 c1 c2 : Nat) (nd : NodeD) (key : ByteArray) (w : World) (hN : RdN w A0 c0 A1 c1 A2 c2 nd) :
    Calls Try.prog 42 #[vN A0 c0 A1 c1 A2 c2 nd, .string key] w fun e w' => e = .returned (.tuple #[.int .i64 (findI nd.pairs key), .bool (findB nd.pairs key)]) ∧ Below w.heap.size w w' := by
  have hpl := hN.hp
  have hle := cntW_le (fun p => bl p.k key) nd.pairs
  have hyes := cntW_yes (fun p => bl p.k key) nd.pairs
  have hno := cntW_no (fun p => bl p.k key) nd.pairs
  have hB : findB nd.pairs key = match nd.pairs[findI nd.pairs key]? with | some p => p.k.toList == key.toList | none => false := rfl
  unfold findI at *
  generalize hC : cntW (fun p => bl p.k key) nd.pairs = C at *
  have HY := Lib.hid hyes
  have HNO := Lib.hid hno
  have HFB := Lib.hid hB
  have hR1 : Rd (w.alloc (.cells #[.slice A0 nd.pairs.length c0, .slice A1 nd.seps.length c1, .slice A2 nd.kids.length c2] 29)) 2 A0 nd.pairs.length (pcells nd.pairs) := hN.pairs.below ((Below.refl _ _).alloc (Nat.le_refl _) _)
  clear hyes hno hB hC hN
  go_enter Try.func42, Try.ntmps42
  go_wp2
  go_loopw [11] (fun i wr => ∃ k : Nat, k ≤ C ∧ i = .int .i64 k ∧ Below (w.heap.size + 1) (w.alloc (.cells #[.slice A0 nd.pairs.length c0, .slice A1 nd.seps.length c1, .slice A2 nd.kids.length c2] 29)) wr) (fun i _ => C - (intOf i).toNat)
  case atStart => exact ⟨0, Nat.zero_le _, rfl, Below.refl _ _⟩
  case round =>
    obtain ⟨k, hk, rfl, hB⟩ := hrel
    obtain ⟨⟨q0, q1, q2⟩, q3⟩ := one_box hB
    have hBw : Below w.heap.size w wr := ((Below.refl _ _).alloc (Nat.le_refl _) _).trans (hB.mono (by omega))
    by_cases hlt : k < nd.pairs.length
    · obtain ⟨ab, ao, rfl, hk0, hk1⟩ := pairs_at (hR1.below (hB.mono (by simp))) hlt
      by_cases hkC : k < C
      · have hb : Op.bytesLess nd.pairs[k].k.toList key.toList = true := HY.out k hlt hkC
        clear hR1
        go_wp2
        go_roundw
        case rel => exact ⟨k + 1, by omega, by go_num, hB.alloc (by omega) _⟩
        case measure => simp [intOf]; omega
      · obtain rfl : k = C := by omega
        have hb : Op.bytesLess nd.pairs[k].k.toList key.toList = false := HNO.out hlt
        have he := HFB.out
        rw [List.getElem?_eq_getElem hlt] at he
        have HE := Lib.hid he
        have q4 : wr.heap.size < wr.heap.size + 1 := by omega
        clear hR1 he
        go_wp2
        refine wp_region_grow (by kernel_rfl) (by kernel_rfl) ?_
        repeat (any_goals (first | go_big_quiet_step (fail) | quiet_step (fail)))
        refine wpQuiet_nil ?_
        intro w2 hb2
        go_wp2
        go_ret2
        exact ⟨by rw [HE.out]; rfl, below_s1 hBw hBw.size hb2⟩
    · obtain rfl : k = nd.pairs.length := by omega
      obtain rfl : C = nd.pairs.length := by omega
      have he := HFB.out
      rw [List.getElem?_eq_none (Nat.le_refl _)] at he
      have HE := Lib.hid he
      clear he hR1
      go_wp2
      go_ret2
      exact ⟨by rw [HE.out]; rfl, hBw⟩

theorem gtw (a b : ByteArray) : (!Op.bytesLess a.toList b.toList && !(a.toList == b.toList)) = bl b a := by
  unfold bl
  generalize a.toList = x
  generalize b.toList = y
  rw [Bool.eq_iff_iff]
  simp only [Bool.and_eq_true, Bool.not_eq_true', beq_eq_false_iff_ne]
  constructor
  · rintro ⟨h1, h2⟩
    rcases lt_total y x with h | h | h
    · exact h
    · exact absurd h.symm h2
    · exact absurd (show Op.bytesLess x y = true from h) (by rw [h1]; simp)
  · intro h
    refine ⟨lt_asymm h, ?_⟩
    rintro rfl
    rw [show Op.bytesLess x x = false from lt_irrefl x] at h; cases h
theorem lew (a b : ByteArray) : (Op.bytesLess a.toList b.toList || (a.toList == b.toList)) = !bl b a := by
  rw [← gtw a b]; simp

theorem way_c (A0 A1 A2 : Option Addr) (c0 c1 c2 : Nat) (nd : NodeD) (key : ByteArray) (w : World) (hN : RdN w A0 c0 A1 c1 A2 c2 nd) :
    Calls Try.prog 44 #[vN A0 c0 A1 c1 A2 c2 nd, .string key] w fun e w' => e = .returned (.int .i64 (wayI nd.seps key)) ∧ Below w.heap.size w w' := by
  have hpl := hN.hs
  have hle := cntW_le (fun s => !bl key s) nd.seps
  have hyes := cntW_yes (fun s => !bl key s) nd.seps
  have hno := cntW_no (fun s => !bl key s) nd.seps
  unfold wayI at *
  generalize hC : cntW (fun s => !bl key s) nd.seps = C at *
  have HY := Lib.hid hyes
  have HNO := Lib.hid hno
  have hR1 : Rd (w.alloc (.cells #[.slice A0 nd.pairs.length c0, .slice A1 nd.seps.length c1, .slice A2 nd.kids.length c2] 29)) 1 A1 nd.seps.length (scells nd.seps) := hN.seps.below ((Below.refl _ _).alloc (Nat.le_refl _) _)
  clear hyes hno hC hN
  go_enter Try.func44, Try.ntmps44
  go_wp2
  go_step3
  go_wp2
  go_step3
  go_wp2
  go_loopw [5, 11] (fun v i wr => ∃ k : Nat, k ≤ C ∧ i = .int .i64 k ∧ v = .int .i64 k ∧ Below (w.heap.size + 1) (w.alloc (.cells #[.slice A0 nd.pairs.length c0, .slice A1 nd.seps.length c1, .slice A2 nd.kids.length c2] 29)) wr) (fun _ i _ => C - (intOf i).toNat)
  case atStart => exact ⟨0, Nat.zero_le _, rfl, rfl, Below.refl _ _⟩
  case round =>
    obtain ⟨k, hk, rfl, rfl, hB⟩ := hrel
    have hBw : Below w.heap.size w wr := ((Below.refl _ _).alloc (Nat.le_refl _) _).trans (hB.mono (by omega))
    by_cases hlt : k < nd.seps.length
    · obtain ⟨ab, ao, rfl, hk0⟩ := seps_at (hR1.below (hB.mono (by simp))) hlt
      by_cases hkC : k < C
      · have hb : (!Op.bytesLess nd.seps[k].toList key.toList && !(nd.seps[k].toList == key.toList)) = false := (gtw _ _).trans (by have := HY.out k hlt hkC; simpa using this)
        clear hR1
        go_wp2
        go_roundw
        case rel => exact ⟨k + 1, by omega, by go_num, by go_num, hB⟩
        case measure => simp [intOf]; omega
      · obtain rfl : k = C := by omega
        have hb : (!Op.bytesLess nd.seps[k].toList key.toList && !(nd.seps[k].toList == key.toList)) = true := (gtw _ _).trans (by have := HNO.out hlt; simpa using this)
        clear hR1
        go_wp2
        rw [Exit.noGoto_ret]
        go_ret
        exact ⟨rfl, hBw⟩
    · obtain rfl : k = nd.seps.length := by omega
      obtain rfl : C = nd.seps.length := by omega
      clear hR1
      go_wp2
      rw [Exit.noGoto_ret]
      go_ret
      exact ⟨rfl, hBw⟩

theorem refFind_c (A0 A1 A2 : Option Addr) (c0 c1 c2 : Nat) (nd : NodeD) (key : ByteArray) (w : World) (hN : RdN w A0 c0 A1 c1 A2 c2 nd) :
    Calls Try.prog 43 #[vN A0 c0 A1 c1 A2 c2 nd, .string key] w fun e w' => e = .returned (.tuple #[.int .i64 (findI nd.pairs key), .bool (findB nd.pairs key)]) ∧ Below w.heap.size w w' := by
  have hpl := hN.hp
  have hle := cntW_le (fun p => bl p.k key) nd.pairs
  have hyes := cntW_yes (fun p => bl p.k key) nd.pairs
  have hno := cntW_no (fun p => bl p.k key) nd.pairs
  have hB : findB nd.pairs key = match nd.pairs[findI nd.pairs key]? with | some p => p.k.toList == key.toList | none => false := rfl
  unfold findI at *
  generalize hC : cntW (fun p => bl p.k key) nd.pairs = C at *
  have HY := Lib.hid hyes
  have HNO := Lib.hid hno
  have HFB := Lib.hid hB
  have hR1 : Rd (w.alloc (.cells #[.slice A0 nd.pairs.length c0, .slice A1 nd.seps.length c1, .slice A2 nd.kids.length c2] 29)) 2 A0 nd.pairs.length (pcells nd.pairs) := hN.pairs.below ((Below.refl _ _).alloc (Nat.le_refl _) _)
  clear hyes hno hB hC hN
  go_enter Try.func43, Try.ntmps43
  go_wp2
  go_loopw [6] (fun i wr => ∃ k : Nat, k ≤ C ∧ i = .int .i64 k ∧ Below (w.heap.size + 1) (w.alloc (.cells #[.slice A0 nd.pairs.length c0, .slice A1 nd.seps.length c1, .slice A2 nd.kids.length c2] 29)) wr) (fun i _ => C - (intOf i).toNat)
  case atStart => exact ⟨0, Nat.zero_le _, rfl, Below.refl _ _⟩
  case round =>
    obtain ⟨k, hk, rfl, hB⟩ := hrel
    obtain ⟨⟨q0, q1, q2⟩, q3⟩ := one_box hB
    have hBw : Below w.heap.size w wr := ((Below.refl _ _).alloc (Nat.le_refl _) _).trans (hB.mono (by omega))
    by_cases hlt : k < nd.pairs.length
    · obtain ⟨ab, ao, rfl, hk0, hk1⟩ := pairs_at (hR1.below (hB.mono (by simp))) hlt
      have habl : ab < wr.heap.size := World.block_lt_of_cell? _ _ hk0
      have hd : decide ((k : Int) < nd.pairs.length) = true := decide_eq_true (by omega)
      by_cases hkC : k < C
      · have hb : Op.bytesLess nd.pairs[k].k.toList key.toList = true := HY.out k hlt hkC
        clear hR1
        go_wp2
        go_roundw
        case rel => exact ⟨k + 1, by omega, by go_num, hB⟩
        case measure => simp [intOf]; omega
      · obtain rfl : k = C := by omega
        have hb : Op.bytesLess nd.pairs[k].k.toList key.toList = false := HNO.out hlt
        have he := HFB.out
        rw [List.getElem?_eq_getElem hlt] at he
        have HE := Lib.hid he
        clear hR1 he
        go_wp2
        refine wp_region_grow (by kernel_rfl) (by kernel_rfl) ?_
        repeat (any_goals (first | go_big_quiet_step (fail) | quiet_step (fail)))
        refine wpQuiet_nil ?_
        intro w2 hb2
        go_wp2
        go_ret2
        exact ⟨by rw [HE.out]; rfl, below_s0 hBw hBw.size hb2⟩
    · obtain rfl : k = nd.pairs.length := by omega
      obtain rfl : C = nd.pairs.length := by omega
      have hd : decide ((nd.pairs.length : Int) < nd.pairs.length) = false := decide_eq_false (by omega)
      have he := HFB.out
      rw [List.getElem?_eq_none (Nat.le_refl _)] at he
      have HE := Lib.hid he
      clear he hR1
      go_wp2
      refine wp_region_grow (by kernel_rfl) (by kernel_rfl) ?_
      repeat (any_goals (first | go_big_quiet_step (fail) | quiet_step (fail)))
      refine wpQuiet_nil ?_
      intro w2 hb2
      go_wp2
      go_ret2
      exact ⟨by rw [HE.out]; rfl, below_s0 hBw hBw.size hb2⟩

theorem refWay_c (A0 A1 A2 : Option Addr) (c0 c1 c2 : Nat) (nd : NodeD) (key : ByteArray) (w : World) (hN : RdN w A0 c0 A1 c1 A2 c2 nd) :
    Calls Try.prog 45 #[vN A0 c0 A1 c1 A2 c2 nd, .string key] w fun e w' => e = .returned (.int .i64 (wayI nd.seps key)) ∧ Below w.heap.size w w' := by
  have hpl := hN.hs
  have hle := cntW_le (fun s => !bl key s) nd.seps
  have hyes := cntW_yes (fun s => !bl key s) nd.seps
  have hno := cntW_no (fun s => !bl key s) nd.seps
  unfold wayI at *
  generalize hC : cntW (fun s => !bl key s) nd.seps = C at *
  have HY := Lib.hid hyes
  have HNO := Lib.hid hno
  have hR1 : Rd (w.alloc (.cells #[.slice A0 nd.pairs.length c0, .slice A1 nd.seps.length c1, .slice A2 nd.kids.length c2] 29)) 1 A1 nd.seps.length (scells nd.seps) := hN.seps.below ((Below.refl _ _).alloc (Nat.le_refl _) _)
  clear hyes hno hC hN
  go_enter Try.func45, Try.ntmps45
  go_wp2
  go_loopw [5] (fun i wr => ∃ k : Nat, k ≤ C ∧ i = .int .i64 k ∧ Below (w.heap.size + 1) (w.alloc (.cells #[.slice A0 nd.pairs.length c0, .slice A1 nd.seps.length c1, .slice A2 nd.kids.length c2] 29)) wr) (fun i _ => C - (intOf i).toNat)
  case atStart => exact ⟨0, Nat.zero_le _, rfl, Below.refl _ _⟩
  case round =>
    obtain ⟨k, hk, rfl, hB⟩ := hrel
    obtain ⟨⟨q0, q1, q2⟩, q3⟩ := one_box hB
    have hBw : Below w.heap.size w wr := ((Below.refl _ _).alloc (Nat.le_refl _) _).trans (hB.mono (by omega))
    by_cases hlt : k < nd.seps.length
    · obtain ⟨ab, ao, rfl, hk0⟩ := seps_at (hR1.below (hB.mono (by simp))) hlt
      by_cases hkC : k < C
      · have hb : (Op.bytesLess nd.seps[k].toList key.toList || (nd.seps[k].toList == key.toList)) = true := (lew _ _).trans (HY.out k hlt hkC)
        clear hR1
        go_wp2
        go_roundw
        case rel => exact ⟨k + 1, by omega, by go_num, hB⟩
        case measure => simp [intOf]; omega
      · obtain rfl : k = C := by omega
        have hb : (Op.bytesLess nd.seps[k].toList key.toList || (nd.seps[k].toList == key.toList)) = false := (lew _ _).trans (HNO.out hlt)
        clear hR1
        go_wp2
        go_ret
        exact ⟨rfl, hBw⟩
    · obtain rfl : k = nd.seps.length := by omega
      obtain rfl : C = nd.seps.length := by omega
      clear hR1
      go_wp2
      go_ret
      exact ⟨rfl, hBw⟩

end Go.Proofs.Ytajkoeodabmgeaa
