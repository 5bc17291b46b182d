import Derived.Test.YtajkoeodabmgeaaZ3
import Derived.Test.YtajkoeodabmgeaaZ2
import Derived.WalkMore
import Derived.RegionTactic
import Derived.Deep.MidRow
import Derived.OneCell
import Derived.Deep.RegionHeld

section
namespace Go.Proofs.Ytajkoeodabmgeaa
open Go.RowKit
set_option maxHeartbeats 2000000
set_option maxRecDepth 100000
attribute [local go_sem] grow_cell grow_frozen grow_size

theorem toList_data (s : ByteArray) : s.toList = s.data.toList := ByteArray.toList_eq s

/-- The separator, or nothing and the error. -/
def sepS (l r : ByteArray) : ByteArray := if bl l r = true then r.extract 0 (lcp l.data.toList r.data.toList + 1) else ⟨#[]⟩
def sepE (l r : ByteArray) : Int := if bl l r = true then 0 else 81

theorem between_err (l r : ByteArray) (w : World) (h : bl l r = false) :
    Calls Try.prog 27 #[.string l, .string r] w fun e w' => e = .returned (.tuple #[.string ⟨#[]⟩, .int .i64 81]) ∧ Below w.heap.size w w' := by
  go_enter Try.func27, Try.ntmps27
  go_wp2
  go_ret2
  exact ⟨rfl, Below.refl _ _⟩

theorem between_ok (l r : ByteArray) (w : World) (hl : l.size ≤ 140737488355328) (hr : r.size ≤ 140737488355328) (h : bl l r = true) :
    Calls Try.prog 27 #[.string l, .string r] w fun e w' => e = .returned (.tuple #[.string (r.extract 0 (lcp l.data.toList r.data.toList + 1)), .int .i64 0]) ∧ Below w.heap.size w w' := by
  have hlt : lt l.data.toList r.data.toList = true := by rw [← toList_data, ← toList_data]; exact h
  have hll : l.data.toList.length = l.size := by simp
  have hrl : r.data.toList.length = r.size := by simp
  have hrr := lcp_lt_right hlt
  have hlb := lcp_le_left l.data.toList r.data.toList
  rw [hrl] at hrr
  rw [hll] at hlb
  have hstep : ∀ k (a : k < l.size) (b : k < r.size), k ≤ lcp l.data.toList r.data.toList → ((l[k] = r[k] → k + 1 ≤ lcp l.data.toList r.data.toList) ∧ (l[k] ≠ r[k] → k = lcp l.data.toList r.data.toList)) := by
    intro k a b hk
    exact lcp_step l.data.toList r.data.toList k (by simpa using a) (by simpa using b) hk
  generalize hC : lcp l.data.toList r.data.toList = C at *
  have HST := Lib.hid hstep
  clear hstep hC hlt hll hrl
  go_enter Try.func27, Try.ntmps27
  go_wp2
  go_loopw [6] (fun i wr => ∃ k : Nat, k ≤ C ∧ i = .int .i64 k ∧ Below w.heap.size w wr) (fun i _ => l.size - (intOf i).toNat)
  case atStart => exact ⟨0, Nat.zero_le _, rfl, Below.refl _ _⟩
  case round =>
    obtain ⟨k, hk, rfl, hB⟩ := hrel
    have hrk : k < r.size := by omega
    go_wp2
    by_cases hlt : k < l.size
    · have hd : decide ((k : Int) < l.size) = true := decide_eq_true (by omega)
      have hs := HST.out k hlt hrk hk
      by_cases he : l[k] = r[k]
      · have h1 := hs.1 he
        have hb : ((l[k].toNat : Int) == (r[k].toNat : Int)) = true := by rw [he]; simp
        have HE := Lib.hid he
        clear he hs
        refine wp_region_grow (by kernel_rfl) (by kernel_rfl) ?_
        repeat (any_goals (first | go_big_quiet_step (fail) | quiet_step (fail)))
        refine wpQuiet_nil ?_
        intro w1 hb
        go_wp2
        go_roundw
        case rel => exact ⟨k + 1, by omega, by go_num, below_s0 hB hB.size hb⟩
        case measure => simp [intOf]; omega
      · have h1 := hs.2 he
        have hb : ((l[k].toNat : Int) == (r[k].toNat : Int)) = false := by
          rw [beq_eq_false_iff_ne]; intro e; exact he (UInt8.toNat_inj.1 (by omega))
        have HE := Lib.hid he
        have H1 := Lib.hid h1
        clear he hs h1
        refine wp_region_grow (by kernel_rfl) (by kernel_rfl) ?_
        repeat (any_goals (first | go_big_quiet_step (fail) | quiet_step (fail)))
        refine wpQuiet_nil ?_
        intro w1 hb
        go_wp2
        go_ret2
        obtain rfl := H1.out
        exact ⟨rfl, below_s0 hB hB.size hb⟩
    · have hd : decide ((k : Int) < l.size) = false := decide_eq_false (by omega)
      refine wp_region_grow (by kernel_rfl) (by kernel_rfl) ?_
      repeat (any_goals (first | go_big_quiet_step (fail) | quiet_step (fail)))
      refine wpQuiet_nil ?_
      intro w1 hb
      go_wp2
      go_ret2
      obtain rfl : k = C := by omega
      exact ⟨rfl, below_s0 hB hB.size hb⟩

theorem between_c (l r : ByteArray) (w : World) (hl : l.size ≤ 140737488355328) (hr : r.size ≤ 140737488355328) :
    Calls Try.prog 27 #[.string l, .string r] w fun e w' => e = .returned (.tuple #[.string (sepS l r), .int .i64 (sepE l r)]) ∧ Below w.heap.size w w' := by
  cases h : bl l r with
  | true => have := between_ok l r w hl hr h; rwa [show sepS l r = _ from if_pos h, show sepE l r = _ from if_pos h]
  | false => have := between_err l r w h; rwa [show sepS l r = _ from if_neg (by rw [h]; simp), show sepE l r = _ from if_neg (by rw [h]; simp)]

theorem extract_take (r : ByteArray) (k : Nat) : (r.extract 0 k).toList = r.data.toList.take k := by
  rw [toList_data, ByteArray.data_extract]
  simp

/-- `>` as the walk writes it. -/
theorem gt_walk (r l : ByteArray) (k : Nat) : (!Op.bytesLess (r.extract 0 k).toList l.toList && !((r.extract 0 k).toList == l.toList)) = lt l.data.toList (r.data.toList.take k) := by
  rw [extract_take, toList_data l]
  generalize r.data.toList.take k = a
  generalize l.data.toList = b
  rw [Bool.eq_iff_iff]
  simp only [Bool.and_eq_true, Bool.not_eq_true', beq_eq_false_iff_ne]
  constructor
  · rintro ⟨h1, h2⟩
    rcases lt_total b a with h | h | h
    · exact h
    · exact absurd h.symm h2
    · exact absurd (show Op.bytesLess a b = true from h) (by rw [h1]; simp)
  · intro h
    refine ⟨lt_asymm h, ?_⟩
    rintro rfl
    rw [lt_irrefl] at h; cases h

theorem refBetween_c (l r : ByteArray) (w : World) (_hl : l.size ≤ 140737488355328) (hr : r.size ≤ 140737488355328) :
    Calls Try.prog 28 #[.string l, .string r] w fun e w' => e = .returned (.tuple #[.string (sepS l r), .int .i64 (sepE l r)]) ∧ Below w.heap.size w w' := by
  have hll : l.data.toList.length = l.size := by simp
  have hrl : r.data.toList.length = r.size := by simp
  have hbl : bl l r = lt l.data.toList r.data.toList := by rw [← toList_data, ← toList_data]
  -- the number of rounds, and what each of them meets
  obtain ⟨N, hN, hrounds, hend⟩ : ∃ N : Nat, N ≤ r.size + 1 ∧ (∀ k, k < N → lt l.data.toList (r.data.toList.take k) = false) ∧
      ((N ≤ r.size ∧ lt l.data.toList (r.data.toList.take N) = true ∧ sepS l r = r.extract 0 N ∧ sepE l r = 0) ∨ (N = r.size + 1 ∧ sepS l r = ⟨#[]⟩ ∧ sepE l r = 81)) := by
    cases h : bl l r with
    | true =>
      have h' : lt l.data.toList r.data.toList = true := by rw [← hbl]; exact h
      have := lcp_lt_right h'
      exact ⟨lcp l.data.toList r.data.toList + 1, by omega, fun k hk => take_lcp _ _ k (by omega), .inl ⟨by omega, take_lcp_succ h', by rw [sepS, if_pos h], by rw [sepE, if_pos h]⟩⟩
    | false =>
      have h' : lt l.data.toList r.data.toList = false := by rw [← hbl]; exact h
      exact ⟨r.size + 1, by omega, fun k _ => take_not_lt h' k, .inr ⟨rfl, by rw [sepS, if_neg (by rw [h]; simp)], by rw [sepE, if_neg (by rw [h]; simp)]⟩⟩
  have HR := Lib.hid hrounds
  have HE := Lib.hid hend
  clear hrounds hend hll hrl hbl
  go_enter Try.func28, Try.ntmps28
  go_wp2
  go_loopw [6] (fun i wr => ∃ k : Nat, k ≤ N ∧ i = .int .i64 k ∧ Below w.heap.size w wr) (fun i _ => N - (intOf i).toNat)
  case atStart => exact ⟨0, Nat.zero_le _, rfl, Below.refl _ _⟩
  case round =>
    obtain ⟨k, hk, rfl, hB⟩ := hrel
    by_cases hkN : k < N
    · have hks : k ≤ r.size := by omega
      have hg := (gt_walk r l k).trans (HR.out k hkN)
      go_wp2
      go_roundw
      case rel => exact ⟨k + 1, by omega, by go_num, hB⟩
      case measure => simp [intOf]; omega
    · obtain rfl : k = N := by omega
      rcases HE.out with ⟨h1, h2, h3, h4⟩ | ⟨h1, h2, h3⟩
      · have hg := (gt_walk r l k).trans h2
        have H3 := Lib.hid h3
        have H4 := Lib.hid h4
        clear h2 h3 h4
        go_wp2
        go_ret2
        exact ⟨by rw [H3.out, H4.out]; rfl, hB⟩
      · have hlt : r.size < k := by omega
        have H1 := Lib.hid h1
        have H3 := Lib.hid h2
        have H4 := Lib.hid h3
        clear h1 h2 h3
        go_wp2
        go_ret2
        exact ⟨by rw [H3.out, H4.out]; rfl, hB⟩

end Go.Proofs.Ytajkoeodabmgeaa
end

section
namespace Go.Proofs.Ytajkoeodabmgeaa
open Go.RowKit
set_option maxHeartbeats 2000000
set_option maxRecDepth 100000
attribute [local go_sem] grow_cell grow_frozen grow_size

/-- How many things at the beginning of a list pass a test. -/
def cntW {α : Type} (p : α → Bool) (l : List α) : Nat := (l.takeWhile p).length
theorem cntW_le {α : Type} (p : α → Bool) (l : List α) : cntW p l ≤ l.length := (List.takeWhile_prefix p).length_le
theorem cntW_yes {α : Type} (p : α → Bool) (l : List α) (k : Nat) (h : k < l.length) (hk : k < cntW p l) : p l[k] = true := by
  have h1 : l[k] = (l.takeWhile p)[k] := by
    have := (List.takeWhile_prefix (l := l) p).getElem hk
    exact this.symm
  rw [h1]
  have := List.all_takeWhile (p := p) (l := l)
  rw [List.all_eq_true] at this
  exact this _ (List.getElem_mem _)
theorem cntW_no {α : Type} (p : α → Bool) (l : List α) (h : cntW p l < l.length) : p l[cntW p l] = false := by
  induction l with
  | nil => simp at h
  | cons x l ih =>
    unfold cntW at h ⊢
    cases hx : p x with
    | true =>
      simp only [List.takeWhile_cons, hx, if_true, List.length_cons, List.getElem_cons_succ] at h ⊢
      exact ih (by simpa [cntW] using h)
    | false => simp [hx]

def findI (ps : List PairD) (key : ByteArray) : Nat := cntW (fun p => bl p.k key) ps
def findB (ps : List PairD) (key : ByteArray) : Bool := match ps[findI ps key]? with | some p => p.k.toList == key.toList | none => false
def wayI (ss : List ByteArray) (key : ByteArray) : Nat := cntW (fun s => !bl key s) ss

theorem one_box {w w1 : World} {c d e : Value} (h : Below (w.heap.size + 1) (w.alloc (.cells #[c, d, e] 29)) w1) :
    (w1.cell? ⟨w.heap.size, 0, none⟩ = some c ∧ w1.cell? ⟨w.heap.size, 1, none⟩ = some d ∧ w1.cell? ⟨w.heap.size, 2, none⟩ = some e) ∧ w.heap.size < w1.heap.size := by
  have h0 : w1.heap[w.heap.size]? = some (.cells #[c, d, e] 29 (0, 0)) := (h.block _ (by omega)).trans (heap_alloc_new w _)
  have := h.size
  simp only [World.size_alloc] at this
  exact ⟨⟨cell_of_row _ _ 0 _ _ _ h0, cell_of_row _ _ 1 _ _ _ h0, cell_of_row _ _ 2 _ _ _ h0⟩, by omega⟩

theorem find_c (A0 A1 A2 : Option Addr) (c0 c1 c2 : Nat) (nd : NodeD) (key : ByteArray) (w : World) (hN : RdN w A0 c0 A1 c1 A2 c2 nd) :
    Calls Try.prog 42 #[vN A0 c0 A1 c1 A2 c2 nd, .string key] w fun e w' => e = .returned (.tuple #[.int .i64 (findI nd.pairs key), .bool (findB nd.pairs key)]) ∧ Below w.heap.size w w' := by
  have hpl := hN.hp
  have hle := cntW_le (fun p => bl p.k key) nd.pairs
  have hyes := cntW_yes (fun p => bl p.k key) nd.pairs
  have hno := cntW_no (fun p => bl p.k key) nd.pairs
  have hB : findB nd.pairs key = match nd.pairs[findI nd.pairs key]? with | some p => p.k.toList == key.toList | none => false := rfl
  unfold findI at *
  generalize hC : cntW (fun p => bl p.k key) nd.pairs = C at *
  have HY := Lib.hid hyes
  have HNO := Lib.hid hno
  have HFB := Lib.hid hB
  have hR1 : Rd (w.alloc (.cells #[.slice A0 nd.pairs.length c0, .slice A1 nd.seps.length c1, .slice A2 nd.kids.length c2] 29)) 2 A0 nd.pairs.length (pcells nd.pairs) := hN.pairs.below ((Below.refl _ _).alloc (Nat.le_refl _) _)
  clear hyes hno hB hC hN
  go_enter Try.func42, Try.ntmps42
  go_wp2
  go_loopw [11] (fun i wr => ∃ k : Nat, k ≤ C ∧ i = .int .i64 k ∧ Below (w.heap.size + 1) (w.alloc (.cells #[.slice A0 nd.pairs.length c0, .slice A1 nd.seps.length c1, .slice A2 nd.kids.length c2] 29)) wr) (fun i _ => C - (intOf i).toNat)
  case atStart => exact ⟨0, Nat.zero_le _, rfl, Below.refl _ _⟩
  case round =>
    obtain ⟨k, hk, rfl, hB⟩ := hrel
    obtain ⟨⟨q0, q1, q2⟩, q3⟩ := one_box hB
    have hBw : Below w.heap.size w wr := ((Below.refl _ _).alloc (Nat.le_refl _) _).trans (hB.mono (by omega))
    by_cases hlt : k < nd.pairs.length
    · obtain ⟨ab, ao, rfl, hk0, hk1⟩ := pairs_at (hR1.below (hB.mono (by simp))) hlt
      by_cases hkC : k < C
      · have hb : Op.bytesLess nd.pairs[k].k.toList key.toList = true := HY.out k hlt hkC
        clear hR1
        go_wp2
        go_roundw
        case rel => exact ⟨k + 1, by omega, by go_num, hB.alloc (by omega) _⟩
        case measure => simp [intOf]; omega
      · obtain rfl : k = C := by omega
        have hb : Op.bytesLess nd.pairs[k].k.toList key.toList = false := HNO.out hlt
        have he := HFB.out
        rw [List.getElem?_eq_getElem hlt] at he
        have HE := Lib.hid he
        have q4 : wr.heap.size < wr.heap.size + 1 := by omega
        clear hR1 he
        go_wp2
        refine wp_region_grow (by kernel_rfl) (by kernel_rfl) ?_
        repeat (any_goals (first | go_big_quiet_step (fail) | quiet_step (fail)))
        refine wpQuiet_nil ?_
        intro w2 hb2
        go_wp2
        go_ret2
        exact ⟨by rw [HE.out]; rfl, below_s1 hBw hBw.size hb2⟩
    · obtain rfl : k = nd.pairs.length := by omega
      obtain rfl : C = nd.pairs.length := by omega
      have he := HFB.out
      rw [List.getElem?_eq_none (Nat.le_refl _)] at he
      have HE := Lib.hid he
      clear he hR1
      go_wp2
      go_ret2
      exact ⟨by rw [HE.out]; rfl, hBw⟩

theorem gtw (a b : ByteArray) : (!Op.bytesLess a.toList b.toList && !(a.toList == b.toList)) = bl b a := by
  unfold bl
  generalize a.toList = x
  generalize b.toList = y
  rw [Bool.eq_iff_iff]
  simp only [Bool.and_eq_true, Bool.not_eq_true', beq_eq_false_iff_ne]
  constructor
  · rintro ⟨h1, h2⟩
    rcases lt_total y x with h | h | h
    · exact h
    · exact absurd h.symm h2
    · exact absurd (show Op.bytesLess x y = true from h) (by rw [h1]; simp)
  · intro h
    refine ⟨lt_asymm h, ?_⟩
    rintro rfl
    rw [show Op.bytesLess x x = false from lt_irrefl x] at h; cases h
theorem lew (a b : ByteArray) : (Op.bytesLess a.toList b.toList || (a.toList == b.toList)) = !bl b a := by
  rw [← gtw a b]; simp

theorem way_c (A0 A1 A2 : Option Addr) (c0 c1 c2 : Nat) (nd : NodeD) (key : ByteArray) (w : World) (hN : RdN w A0 c0 A1 c1 A2 c2 nd) :
    Calls Try.prog 44 #[vN A0 c0 A1 c1 A2 c2 nd, .string key] w fun e w' => e = .returned (.int .i64 (wayI nd.seps key)) ∧ Below w.heap.size w w' := by
  have hpl := hN.hs
  have hle := cntW_le (fun s => !bl key s) nd.seps
  have hyes := cntW_yes (fun s => !bl key s) nd.seps
  have hno := cntW_no (fun s => !bl key s) nd.seps
  unfold wayI at *
  generalize hC : cntW (fun s => !bl key s) nd.seps = C at *
  have HY := Lib.hid hyes
  have HNO := Lib.hid hno
  have hR1 : Rd (w.alloc (.cells #[.slice A0 nd.pairs.length c0, .slice A1 nd.seps.length c1, .slice A2 nd.kids.length c2] 29)) 1 A1 nd.seps.length (scells nd.seps) := hN.seps.below ((Below.refl _ _).alloc (Nat.le_refl _) _)
  clear hyes hno hC hN
  go_enter Try.func44, Try.ntmps44
  go_wp2
  go_step3
  go_wp2
  go_step3
  go_wp2
  go_loopw [5, 11] (fun v i wr => ∃ k : Nat, k ≤ C ∧ i = .int .i64 k ∧ v = .int .i64 k ∧ Below (w.heap.size + 1) (w.alloc (.cells #[.slice A0 nd.pairs.length c0, .slice A1 nd.seps.length c1, .slice A2 nd.kids.length c2] 29)) wr) (fun _ i _ => C - (intOf i).toNat)
  case atStart => exact ⟨0, Nat.zero_le _, rfl, rfl, Below.refl _ _⟩
  case round =>
    obtain ⟨k, hk, rfl, rfl, hB⟩ := hrel
    have hBw : Below w.heap.size w wr := ((Below.refl _ _).alloc (Nat.le_refl _) _).trans (hB.mono (by omega))
    by_cases hlt : k < nd.seps.length
    · obtain ⟨ab, ao, rfl, hk0⟩ := seps_at (hR1.below (hB.mono (by simp))) hlt
      by_cases hkC : k < C
      · have hb : (!Op.bytesLess nd.seps[k].toList key.toList && !(nd.seps[k].toList == key.toList)) = false := (gtw _ _).trans (by have := HY.out k hlt hkC; simpa using this)
        clear hR1
        go_wp2
        go_roundw
        case rel => exact ⟨k + 1, by omega, by go_num, by go_num, hB⟩
        case measure => simp [intOf]; omega
      · obtain rfl : k = C := by omega
        have hb : (!Op.bytesLess nd.seps[k].toList key.toList && !(nd.seps[k].toList == key.toList)) = true := (gtw _ _).trans (by have := HNO.out hlt; simpa using this)
        clear hR1
        go_wp2
        rw [Exit.noGoto_ret]
        go_ret
        exact ⟨rfl, hBw⟩
    · obtain rfl : k = nd.seps.length := by omega
      obtain rfl : C = nd.seps.length := by omega
      clear hR1
      go_wp2
      rw [Exit.noGoto_ret]
      go_ret
      exact ⟨rfl, hBw⟩

theorem refFind_c (A0 A1 A2 : Option Addr) (c0 c1 c2 : Nat) (nd : NodeD) (key : ByteArray) (w : World) (hN : RdN w A0 c0 A1 c1 A2 c2 nd) :
    Calls Try.prog 43 #[vN A0 c0 A1 c1 A2 c2 nd, .string key] w fun e w' => e = .returned (.tuple #[.int .i64 (findI nd.pairs key), .bool (findB nd.pairs key)]) ∧ Below w.heap.size w w' := by
  have hpl := hN.hp
  have hle := cntW_le (fun p => bl p.k key) nd.pairs
  have hyes := cntW_yes (fun p => bl p.k key) nd.pairs
  have hno := cntW_no (fun p => bl p.k key) nd.pairs
  have hB : findB nd.pairs key = match nd.pairs[findI nd.pairs key]? with | some p => p.k.toList == key.toList | none => false := rfl
  unfold findI at *
  generalize hC : cntW (fun p => bl p.k key) nd.pairs = C at *
  have HY := Lib.hid hyes
  have HNO := Lib.hid hno
  have HFB := Lib.hid hB
  have hR1 : Rd (w.alloc (.cells #[.slice A0 nd.pairs.length c0, .slice A1 nd.seps.length c1, .slice A2 nd.kids.length c2] 29)) 2 A0 nd.pairs.length (pcells nd.pairs) := hN.pairs.below ((Below.refl _ _).alloc (Nat.le_refl _) _)
  clear hyes hno hB hC hN
  go_enter Try.func43, Try.ntmps43
  go_wp2
  go_loopw [6] (fun i wr => ∃ k : Nat, k ≤ C ∧ i = .int .i64 k ∧ Below (w.heap.size + 1) (w.alloc (.cells #[.slice A0 nd.pairs.length c0, .slice A1 nd.seps.length c1, .slice A2 nd.kids.length c2] 29)) wr) (fun i _ => C - (intOf i).toNat)
  case atStart => exact ⟨0, Nat.zero_le _, rfl, Below.refl _ _⟩
  case round =>
    obtain ⟨k, hk, rfl, hB⟩ := hrel
    obtain ⟨⟨q0, q1, q2⟩, q3⟩ := one_box hB
    have hBw : Below w.heap.size w wr := ((Below.refl _ _).alloc (Nat.le_refl _) _).trans (hB.mono (by omega))
    by_cases hlt : k < nd.pairs.length
    · obtain ⟨ab, ao, rfl, hk0, hk1⟩ := pairs_at (hR1.below (hB.mono (by simp))) hlt
      have habl : ab < wr.heap.size := World.block_lt_of_cell? _ _ hk0
      have hd : decide ((k : Int) < nd.pairs.length) = true := decide_eq_true (by omega)
      by_cases hkC : k < C
      · have hb : Op.bytesLess nd.pairs[k].k.toList key.toList = true := HY.out k hlt hkC
        clear hR1
        go_wp2
        go_roundw
        case rel => exact ⟨k + 1, by omega, by go_num, hB⟩
        case measure => simp [intOf]; omega
      · obtain rfl : k = C := by omega
        have hb : Op.bytesLess nd.pairs[k].k.toList key.toList = false := HNO.out hlt
        have he := HFB.out
        rw [List.getElem?_eq_getElem hlt] at he
        have HE := Lib.hid he
        clear hR1 he
        go_wp2
        refine wp_region_grow (by kernel_rfl) (by kernel_rfl) ?_
        repeat (any_goals (first | go_big_quiet_step (fail) | quiet_step (fail)))
        refine wpQuiet_nil ?_
        intro w2 hb2
        go_wp2
        go_ret2
        exact ⟨by rw [HE.out]; rfl, below_s0 hBw hBw.size hb2⟩
    · obtain rfl : k = nd.pairs.length := by omega
      obtain rfl : C = nd.pairs.length := by omega
      have hd : decide ((nd.pairs.length : Int) < nd.pairs.length) = false := decide_eq_false (by omega)
      have he := HFB.out
      rw [List.getElem?_eq_none (Nat.le_refl _)] at he
      have HE := Lib.hid he
      clear he hR1
      go_wp2
      refine wp_region_grow (by kernel_rfl) (by kernel_rfl) ?_
      repeat (any_goals (first | go_big_quiet_step (fail) | quiet_step (fail)))
      refine wpQuiet_nil ?_
      intro w2 hb2
      go_wp2
      go_ret2
      exact ⟨by rw [HE.out]; rfl, below_s0 hBw hBw.size hb2⟩

theorem refWay_c (A0 A1 A2 : Option Addr) (c0 c1 c2 : Nat) (nd : NodeD) (key : ByteArray) (w : World) (hN : RdN w A0 c0 A1 c1 A2 c2 nd) :
    Calls Try.prog 45 #[vN A0 c0 A1 c1 A2 c2 nd, .string key] w fun e w' => e = .returned (.int .i64 (wayI nd.seps key)) ∧ Below w.heap.size w w' := by
  have hpl := hN.hs
  have hle := cntW_le (fun s => !bl key s) nd.seps
  have hyes := cntW_yes (fun s => !bl key s) nd.seps
  have hno := cntW_no (fun s => !bl key s) nd.seps
  unfold wayI at *
  generalize hC : cntW (fun s => !bl key s) nd.seps = C at *
  have HY := Lib.hid hyes
  have HNO := Lib.hid hno
  have hR1 : Rd (w.alloc (.cells #[.slice A0 nd.pairs.length c0, .slice A1 nd.seps.length c1, .slice A2 nd.kids.length c2] 29)) 1 A1 nd.seps.length (scells nd.seps) := hN.seps.below ((Below.refl _ _).alloc (Nat.le_refl _) _)
  clear hyes hno hC hN
  go_enter Try.func45, Try.ntmps45
  go_wp2
  go_loopw [5] (fun i wr => ∃ k : Nat, k ≤ C ∧ i = .int .i64 k ∧ Below (w.heap.size + 1) (w.alloc (.cells #[.slice A0 nd.pairs.length c0, .slice A1 nd.seps.length c1, .slice A2 nd.kids.length c2] 29)) wr) (fun i _ => C - (intOf i).toNat)
  case atStart => exact ⟨0, Nat.zero_le _, rfl, Below.refl _ _⟩
  case round =>
    obtain ⟨k, hk, rfl, hB⟩ := hrel
    obtain ⟨⟨q0, q1, q2⟩, q3⟩ := one_box hB
    have hBw : Below w.heap.size w wr := ((Below.refl _ _).alloc (Nat.le_refl _) _).trans (hB.mono (by omega))
    by_cases hlt : k < nd.seps.length
    · obtain ⟨ab, ao, rfl, hk0⟩ := seps_at (hR1.below (hB.mono (by simp))) hlt
      by_cases hkC : k < C
      · have hb : (Op.bytesLess nd.seps[k].toList key.toList || (nd.seps[k].toList == key.toList)) = true := (lew _ _).trans (HY.out k hlt hkC)
        clear hR1
        go_wp2
        go_roundw
        case rel => exact ⟨k + 1, by omega, by go_num, hB⟩
        case measure => simp [intOf]; omega
      · obtain rfl : k = C := by omega
        have hb : (Op.bytesLess nd.seps[k].toList key.toList || (nd.seps[k].toList == key.toList)) = false := (lew _ _).trans (HNO.out hlt)
        clear hR1
        go_wp2
        go_ret
        exact ⟨rfl, hBw⟩
    · obtain rfl : k = nd.seps.length := by omega
      obtain rfl : C = nd.seps.length := by omega
      clear hR1
      go_wp2
      go_ret
      exact ⟨rfl, hBw⟩

end Go.Proofs.Ytajkoeodabmgeaa
end

section
namespace Go.Proofs.Ytajkoeodabmgeaa
open Go.RowKit

theorem Rd.none_ {w : World} {size : Nat} {A : Option Addr} : Rd w size A 0 [] := ⟨by simp, fun h => absurd h (by omega)⟩

/-- The first elements of a slice. -/
theorem Rd.take {w : World} {size n : Nat} {A : Option Addr} {xs : List Value} (h : Rd w size A n xs) {k : Nat} (hk : k ≤ n) : Rd w size A k (xs.take (k * size)) := by
  refine ⟨?_, fun h0 => ?_⟩
  · rw [List.length_take, h.1, Nat.min_eq_left (Nat.mul_le_mul_right _ hk)]
  · obtain ⟨b, o, e, hc⟩ := h.2 (by omega)
    refine ⟨b, o, e, fun j u hu => hc j u ?_⟩
    rw [List.getElem?_take] at hu
    split at hu
    · exact hu
    · cases hu

/-- The elements of a slice from one on. -/
theorem Rd.drop {w : World} {size n : Nat} {A : Option Addr} {xs : List Value} (h : Rd w size A n xs) {k c : Nat} (hk : k ≤ n) (hc : n ≤ c) :
    Rd w size (if c = k then A else A.map (·.add (k * size))) (n - k) (xs.drop (k * size)) := by
  refine ⟨?_, fun h0 => ?_⟩
  · rw [List.length_drop, h.1, Nat.sub_mul]
  · obtain ⟨b, o, rfl, hcell⟩ := h.2 (by omega)
    rw [if_neg (by omega)]
    refine ⟨b, o + k * size, by simp [Addr.add_mid], fun j u hu => ?_⟩
    rw [Nat.add_assoc]
    exact hcell _ u (by rw [← hu, List.getElem?_drop])

theorem run_append_nothing {P : Program} {w : World} {base : Nat} {t ty e : TypeId} {i : TypeInfo} {size : Nat} (ht : P.underlying t = some (.slice e)) (hi : P.info? e = some i)
    {v : Value} {n : Nat} {xs : List Value} (hown : w.ownsRow base e size v n xs) (c : Nat) : (Builtin.append_ #[t, t] ty #[v, .slice none 0 c]).run P w = .ok v w := by
  rcases hown.2 with ⟨rfl, rfl⟩ | ⟨g, cap, cur, rfl, _, _, hnc, _⟩
  · simp [Builtin.append_, run_underlying ht, sizeOf, typeInfo, hi, Builtin.lenOf, Builtin.firstCells]
  · simp [Builtin.append_, run_underlying ht, sizeOf, typeInfo, hi, Builtin.lenOf, Builtin.firstCells, hnc, storeCells]

/-- `append` onto a row of the call's own, the source nil or not. -/
theorem run_append_rd {P : Program} {w : World} {base : Nat} {t ty e : TypeId} {i : TypeInfo} {z : Value} {size bytes : Nat} (ht : P.underlying t = some (.slice e)) (hi : P.info? e = some i) (hz : i.zero = some z)
    (hsize : i.size = size) (hby : i.bytes = bytes) (hzs : z.cells.size = size) (hsz : 0 < size)
    {v : Value} {n : Nat} {xs : List Value} (hown : w.ownsRow base e size v n xs)
    {A : Option Addr} {m : Nat} (c : Nat) {news : List Value} (hr : Rd w size A m news) (h1 : ∀ u ∈ news, u.oneCell' = true)
    (hbytes : (n + m) * bytes ≤ 140737488355328) (hb1 : 0 < bytes) (hbase : base ≤ w.heap.size) :
    ∃ v' w', (Builtin.append_ #[t, t] ty #[v, .slice A m c]).run P w = .ok v' w' ∧ w'.ownsRow base e size v' (n + m) (xs ++ news) ∧ w.grownBy w' v.ownBlock ∧
      (v'.ownBlock = v.ownBlock ∨ v'.ownBlock = some w.heap.size) ∧ (v = .slice none 0 0 → m = 0 → v' = v) := by
  have h63 : n + m ≤ maxLen := by
    have : (n + m) * 1 ≤ (n + m) * bytes := Nat.mul_le_mul_left _ hb1
    unfold maxLen; omega
  rcases Nat.eq_zero_or_pos m with h0 | h0
  · subst h0
    have hn : news = [] := List.eq_nil_of_length_eq_zero (by simpa using hr.1)
    subst hn
    cases A with
    | none => exact ⟨v, w, run_append_nothing ht hi hown c, by simpa using hown, ⟨rfl, rfl, rfl, Nat.le_refl _, fun _ _ _ => rfl⟩, .inl rfl, fun _ _ => rfl⟩
    | some ad =>
      obtain ⟨v', w', h2, h3, h4, h5, h6⟩ := run_append_own_at (P := P) w base t ty e i z size bytes ht hi hz hsize hby hzs hsz v n xs hown ad 0 c [] (by simp) (fun j u h => by simp at h) (fun u h => by simp at h) h63 hbytes hbase
      exact ⟨v', w', h2, h3, h4, h6, fun e _ => (h5.2 ⟨e, rfl⟩).trans e.symm⟩
  · obtain ⟨b, o, rfl, hc⟩ := hr.2 h0
    obtain ⟨v', w', h2, h3, h4, h5, h6⟩ := run_append_own_at (P := P) w base t ty e i z size bytes ht hi hz hsize hby hzs hsz v n xs hown ⟨b, o, none⟩ m c news hr.1 (fun j u h => by rw [Addr.add_mid]; exact hc j u h) h1 h63 hbytes hbase
    exact ⟨v', w', h2, h3, h4, h6, fun _ h => by omega⟩

theorem wp_append_rd {P : Program} {w : World} {o : Oper} {a : Act} {K : Act → World → Prop} {Q : Exit → Act → World → Prop} (s x : Operand) (t : TypeId)
    (ho : o.op = .call { callee := .builtin .append, args := #[s, x], argTypes := #[t, t] })
    (base : Nat) (e : TypeId) {i : TypeInfo} {z : Value} {size bytes : Nat} (ht : P.underlying t = some (.slice e)) (hi : P.info? e = some i) (hz : i.zero = some z)
    (hsize : i.size = size) (hby : i.bytes = bytes) (hzs : z.cells.size = size) (hsz : 0 < size)
    {v : Value} {n : Nat} {xs : List Value} (hs : a.eval s = v) (hown : w.ownsRow base e size v n xs)
    {A : Option Addr} {m c : Nat} {news : List Value} (hx : a.eval x = .slice A m c) (hr : Rd w size A m news) (h1 : ∀ u ∈ news, u.oneCell' = true)
    (hbytes : (n + m) * bytes ≤ 140737488355328) (hb1 : 0 < bytes) (hbase : base ≤ w.heap.size)
    (h : ∀ v' w', w'.ownsRow base e size v' (n + m) (xs ++ news) → w.grownBy w' v.ownBlock → (v'.ownBlock = v.ownBlock ∨ v'.ownBlock = some w.heap.size) ∧ (v = .slice none 0 0 → m = 0 → v' = v) → K (a.put o.dst v') w') : o.wp P a w K Q := by
  obtain ⟨v', w', hrun, h2, h3, h4⟩ := run_append_rd (P := P) (ty := o.type) ht hi hz hsize hby hzs hsz hown c hr h1 hbytes hb1 hbase
  unfold Oper.wp execOp
  simp only [ho, resolve, invoke, builtin, Sem.run_bind, Sem.run_pure, Result.andThen_ok, List.map_toArray, List.map_cons, List.map_nil, hs, hx, hrun]
  exact h v' w' h2 h3 h4

/-- .. at a plain region's list. -/
theorem wpList_append_rd {P : Program} {w : World} {ops : Array Oper} {rest : List Oper} {o : Oper} {a : Act} {Q : Exit → Act → World → Prop} (hgd : o.guard = none) (s x : Operand) (t : TypeId)
    (ho : o.op = .call { callee := .builtin .append, args := #[s, x], argTypes := #[t, t] })
    (base : Nat) (e : TypeId) {i : TypeInfo} {z : Value} {size bytes : Nat} (ht : P.underlying t = some (.slice e)) (hi : P.info? e = some i) (hz : i.zero = some z)
    (hsize : i.size = size) (hby : i.bytes = bytes) (hzs : z.cells.size = size) (hsz : 0 < size)
    {v : Value} {n : Nat} {xs : List Value} (hs : a.eval s = v) (hown : w.ownsRow base e size v n xs)
    {A : Option Addr} {m c : Nat} {news : List Value} (hx : a.eval x = .slice A m c) (hr : Rd w size A m news) (h1 : ∀ u ∈ news, u.oneCell' = true)
    (hbytes : (n + m) * bytes ≤ 140737488355328) (hb1 : 0 < bytes) (hbase : base ≤ w.heap.size)
    (h : ∀ v' w', w'.ownsRow base e size v' (n + m) (xs ++ news) → w.grownBy w' v.ownBlock → (v'.ownBlock = v.ownBlock ∨ v'.ownBlock = some w.heap.size) ∧ (v = .slice none 0 0 → m = 0 → v' = v) → wpList P ops Q rest (a.put o.dst v') w') : wpList P ops Q (o :: rest) a w :=
  wpList_plain hgd fun _ hK => wp_append_rd s x t ho base e ht hi hz hsize hby hzs hsz hs hown hx hr h1 hbytes hb1 hbase fun v' w' h2 h3 h4 => hK _ _ (h v' w' h2 h3 h4)

/-- `make([]T, 0, c)`. -/
theorem wpList_mk {P : Program} {w : World} {ops : Array Oper} {rest : List Oper} {o : Oper} {a : Act} {Q : Exit → Act → World → Prop} (hgd : o.guard = none) (l x : Operand) (t : TypeId) (ho : o.op = .makeSlice t l x)
    (base : Nat) (e : TypeId) {i : TypeInfo} {z : Value} {size bytes : Nat} (ht : P.underlying t = some (.slice e)) (hi : P.info? e = some i) (hz : i.zero = some z) (hsize : i.size = size) (hby : i.bytes = bytes)
    (kl kc : IntKind) (c : Int) (hl : a.eval l = .int kl 0) (hx : a.eval x = .int kc c) (h0 : 0 ≤ c) (hbytes : c * bytes ≤ 140737488355328) (hb1 : 0 < bytes) (hbase : base ≤ w.heap.size)
    (h : ∀ v w', w'.ownsRow base e size v 0 [] → Below w.heap.size w w' → v.ownBlock = some w.heap.size → wpList P ops Q rest (a.put o.dst v) w') : wpList P ops Q (o :: rest) a w := by
  subst hsize
  subst hby
  obtain ⟨n, rfl⟩ := Int.eq_ofNat_of_zero_le h0
  have hb : n * i.bytes ≤ 140737488355328 := by
    have : ((n * i.bytes : Nat) : Int) ≤ 140737488355328 := by rw [Int.natCast_mul]; exact hbytes
    omega
  have hn : n * 1 ≤ n * i.bytes := Nat.mul_le_mul_left _ hb1
  obtain ⟨w', hr, hown, hg⟩ := run_make_own (P := P) w base t e i z i.size ht hi hz rfl kl kc n (by rw [Nat.mul_comm]; omega) (by unfold maxLen; omega) hbase
  refine wpList_plain hgd fun K hK => ?_
  unfold Oper.wp execOp
  simp only [ho, hl, hx, Sem.run_bind, Sem.run_pure, Result.andThen_ok, hr]
  exact hK _ _ (h _ w' hown ((Below.refl _ _).grown hg (Nat.le_refl _) (fun k e => by cases e)) rfl)

/-- `s[k:]`: the address under one name. -/
theorem slice_from {P : Program} (t : TypeId) (size : Nat) (ht : P.underlying t = some (.slice (P.elem t))) (hs : ∀ W, (sizeOf (P.elem t)).run P W = .ok size W)
    (A : Option Addr) (n c k : Nat) (x : Int) (hx : x = k) (hk : k ≤ n) (hc : n ≤ c) :
    ∃ A', (∀ W, (Instr.slice t (.slice A n c) (some (.int .i64 x)) none none).run P W = .ok (.slice A' (n - k) (c - k)) W) ∧
      ∀ W xs, Rd W size A n xs → Rd W size A' (n - k) (xs.drop (k * size)) := by
  subst hx
  refine ⟨if c = k then A else A.map (·.add (k * size)), fun W => ?_, fun W xs h => h.drop hk hc⟩
  rw [run_slice_l (P := P) W t A n c ht .i64 (k : Int) (by omega) (by omega), hs W]
  simp only [Result.andThen_ok, sliced, Int.toNat_natCast]

end Go.Proofs.Ytajkoeodabmgeaa
end

section
namespace Go.Proofs.Ytajkoeodabmgeaa
open Go.RowKit
set_option maxHeartbeats 2000000
set_option maxRecDepth 100000

theorem info85' : (Try.prog.info? 85).map (fun i => (i.zero, i.size, i.bytes)) = some (some (.agg (.int .u32 0 :: List.replicate 32 (.int .u8 0)).toArray), 33, 36) := by kernel_rfl

theorem elem25 : Try.prog.underlying 25 = some (.slice (Try.prog.elem 25)) := by kernel_rfl
theorem elem26 : Try.prog.underlying 26 = some (.slice (Try.prog.elem 26)) := by kernel_rfl
theorem elem27 : Try.prog.underlying 27 = some (.slice (Try.prog.elem 27)) := by kernel_rfl
theorem sizeP (W : World) : (sizeOf (Try.prog.elem 25)).run Try.prog W = .ok 2 W := by kernel_rfl
theorem sizeS (W : World) : (sizeOf (Try.prog.elem 26)).run Try.prog W = .ok 1 W := by kernel_rfl
theorem sizeK (W : World) : (sizeOf (Try.prog.elem 27)).run Try.prog W = .ok 33 W := by kernel_rfl

theorem putP_c (A Ai : Option Addr) (n c m ci at_ many : Nat) (xs ys : List Value) (w : World) (hR : Rd w 2 A n xs) (hI : Rd w 2 Ai m ys) (hc : n ≤ c) (h : at_ + many ≤ n)
    (hb : (n + m) * 32 ≤ 140737488355328) (hx1 : ∀ u ∈ xs, u.oneCell' = true) (hy1 : ∀ u ∈ ys, u.oneCell' = true) :
    Calls Try.prog 65 #[.slice A n c, .int .i64 at_, .int .i64 many, .slice Ai m ci] w fun e w' =>
      (∃ v, e = .returned v ∧ w'.ownsRow w.heap.size 31 2 v (n - many + m) (xs.take (at_ * 2) ++ ys ++ xs.drop ((at_ + many) * 2))) ∧ Below w.heap.size w w' := by
  obtain ⟨i0, hi, hz0, hz1, hz2⟩ := info_parts info31
  have hs1 := hR.take (k := at_) (by omega)
  obtain ⟨A', hsl, hs2⟩ := slice_from 25 2 elem25 sizeP A n c (at_ + many) ((at_ : Int) + (many : Int)) (by omega) h hc
  have hs2 := hs2 w xs hR
  have HX := Lib.hid hx1
  have HY := Lib.hid hy1
  have HS1 := Lib.hid hs1
  have HS2 := Lib.hid hs2
  clear hx1 hy1 hs1 hs2 hR
  go_enter Try.func65, Try.ntmps65
  go_wp2_with (first
    | (refine wpList_mk rfl (.const (.int .i64 0)) (.tmp 16) 25 rfl w.heap.size 31 Try.underlying25 hi hz0 hz1 hz2 .i64 .i64 _ rfl rfl (by omega) (by omega) (by omega) (Nat.le_refl _) ?_; intro v1 w1 hown1 hb1 hob1)
    | (at_builtin; refine wpList_append_rd rfl (.tmp 18) (.tmp 21) 25 rfl w.heap.size 31 Try.underlying25 hi hz0 hz1 hz2 rfl (by decide) rfl hown1 rfl (HS1.out.below hb1) (fun u hu => HX.out u (List.mem_of_mem_take hu)) (by omega) (by decide) hb1.size ?_; intro v2 w2 hown2 hg2 _; have hb2 := hb1.grown hg2 hb1.size (fun k e => (hown1.lt k e).1); clear hg2)
    | (at_builtin; refine wpList_append_rd rfl (.tmp 23) (.tmp 24) 25 rfl w.heap.size 31 Try.underlying25 hi hz0 hz1 hz2 rfl (by decide) rfl hown2 rfl (hI.below hb2) HY.out (by omega) (by decide) hb2.size ?_; intro v3 w3 hown3 hg3 _; have hb3 := hb2.grown hg3 hb2.size (fun k e => (hown2.lt k e).1); clear hg3)
    | (at_builtin; refine wpList_append_rd rfl (.tmp 26) (.tmp 31) 25 rfl w.heap.size 31 Try.underlying25 hi hz0 hz1 hz2 rfl (by decide) rfl hown3 rfl (HS2.out.below hb3) (fun u hu => HX.out u (List.mem_of_mem_drop hu)) (by omega) (by decide) hb3.size ?_; intro v4 w4 hown4 hg4 _; have hb4 := hb3.grown hg4 hb3.size (fun k e => (hown3.lt k e).1); clear hg4))
  go_ret
  exact ⟨⟨v4, rfl, by rw [show n - many + m = 0 + at_ + m + (n - (at_ + many)) by omega]; simpa using hown4⟩, hb4⟩

theorem putK_c (A Ai : Option Addr) (n c m ci at_ many : Nat) (xs ys : List Value) (w : World) (hR : Rd w 33 A n xs) (hI : Rd w 33 Ai m ys) (hc : n ≤ c) (h : at_ + many ≤ n)
    (hb : (n + m) * 36 ≤ 140737488355328) (hx1 : ∀ u ∈ xs, u.oneCell' = true) (hy1 : ∀ u ∈ ys, u.oneCell' = true) :
    Calls Try.prog 85 #[.slice A n c, .int .i64 at_, .int .i64 many, .slice Ai m ci] w fun e w' =>
      (∃ v, e = .returned v ∧ w'.ownsRow w.heap.size 85 33 v (n - many + m) (xs.take (at_ * 33) ++ ys ++ xs.drop ((at_ + many) * 33))) ∧ Below w.heap.size w w' := by
  obtain ⟨i0, hi, hz0, hz1, hz2⟩ := info_parts info85'
  have hs1 := hR.take (k := at_) (by omega)
  obtain ⟨A', hsl, hs2⟩ := slice_from 27 33 elem27 sizeK A n c (at_ + many) ((at_ : Int) + (many : Int)) (by omega) h hc
  have hs2 := hs2 w xs hR
  have HX := Lib.hid hx1
  have HY := Lib.hid hy1
  have HS1 := Lib.hid hs1
  have HS2 := Lib.hid hs2
  clear hx1 hy1 hs1 hs2 hR
  go_enter Try.func85, Try.ntmps85
  go_wp2_with (first
    | (refine wpList_mk rfl (.const (.int .i64 0)) (.tmp 16) 27 rfl w.heap.size 85 Try.underlying27 hi hz0 hz1 hz2 .i64 .i64 _ rfl rfl (by omega) (by omega) (by omega) (Nat.le_refl _) ?_; intro v1 w1 hown1 hb1 hob1)
    | (at_builtin; refine wpList_append_rd rfl (.tmp 18) (.tmp 21) 27 rfl w.heap.size 85 Try.underlying27 hi hz0 hz1 hz2 rfl (by decide) rfl hown1 rfl (HS1.out.below hb1) (fun u hu => HX.out u (List.mem_of_mem_take hu)) (by omega) (by decide) hb1.size ?_; intro v2 w2 hown2 hg2 _; have hb2 := hb1.grown hg2 hb1.size (fun k e => (hown1.lt k e).1); clear hg2)
    | (at_builtin; refine wpList_append_rd rfl (.tmp 23) (.tmp 24) 27 rfl w.heap.size 85 Try.underlying27 hi hz0 hz1 hz2 rfl (by decide) rfl hown2 rfl (hI.below hb2) HY.out (by omega) (by decide) hb2.size ?_; intro v3 w3 hown3 hg3 _; have hb3 := hb2.grown hg3 hb2.size (fun k e => (hown2.lt k e).1); clear hg3)
    | (at_builtin; refine wpList_append_rd rfl (.tmp 26) (.tmp 31) 27 rfl w.heap.size 85 Try.underlying27 hi hz0 hz1 hz2 rfl (by decide) rfl hown3 rfl (HS2.out.below hb3) (fun u hu => HX.out u (List.mem_of_mem_drop hu)) (by omega) (by decide) hb3.size ?_; intro v4 w4 hown4 hg4 _; have hb4 := hb3.grown hg4 hb3.size (fun k e => (hown3.lt k e).1); clear hg4))
  go_ret
  exact ⟨⟨v4, rfl, by rw [show n - many + m = 0 + at_ + m + (n - (at_ + many)) by omega]; simpa using hown4⟩, hb4⟩

theorem putS_c (A Ai : Option Addr) (n c m ci at_ many : Nat) (xs ys : List Value) (w : World) (hR : Rd w 1 A n xs) (hI : Rd w 1 Ai m ys) (hc : n ≤ c) (h : at_ + many ≤ n)
    (hb : (n + m) * 16 ≤ 140737488355328) (hx1 : ∀ u ∈ xs, u.oneCell' = true) (hy1 : ∀ u ∈ ys, u.oneCell' = true) :
    Calls Try.prog 86 #[.slice A n c, .int .i64 at_, .int .i64 many, .slice Ai m ci] w fun e w' =>
      (∃ v, e = .returned v ∧ w'.ownsRow w.heap.size 9 1 v (n - many + m) (xs.take (at_ * 1) ++ ys ++ xs.drop ((at_ + many) * 1))) ∧ Below w.heap.size w w' := by
  obtain ⟨i0, hi, hz0, hz1, hz2⟩ := info_parts info9
  have hs1 := hR.take (k := at_) (by omega)
  obtain ⟨A', hsl, hs2⟩ := slice_from 26 1 elem26 sizeS A n c (at_ + many) ((at_ : Int) + (many : Int)) (by omega) h hc
  have hs2 := hs2 w xs hR
  have HX := Lib.hid hx1
  have HY := Lib.hid hy1
  have HS1 := Lib.hid hs1
  have HS2 := Lib.hid hs2
  clear hx1 hy1 hs1 hs2 hR
  go_enter Try.func86, Try.ntmps86
  go_wp2_with (first
    | (refine wpList_mk rfl (.const (.int .i64 0)) (.tmp 16) 26 rfl w.heap.size 9 Try.underlying26 hi hz0 hz1 hz2 .i64 .i64 _ rfl rfl (by omega) (by omega) (by omega) (Nat.le_refl _) ?_; intro v1 w1 hown1 hb1 hob1)
    | (at_builtin; refine wpList_append_rd rfl (.tmp 18) (.tmp 21) 26 rfl w.heap.size 9 Try.underlying26 hi hz0 hz1 hz2 rfl (by decide) rfl hown1 rfl (HS1.out.below hb1) (fun u hu => HX.out u (List.mem_of_mem_take hu)) (by omega) (by decide) hb1.size ?_; intro v2 w2 hown2 hg2 _; have hb2 := hb1.grown hg2 hb1.size (fun k e => (hown1.lt k e).1); clear hg2)
    | (at_builtin; refine wpList_append_rd rfl (.tmp 23) (.tmp 24) 26 rfl w.heap.size 9 Try.underlying26 hi hz0 hz1 hz2 rfl (by decide) rfl hown2 rfl (hI.below hb2) HY.out (by omega) (by decide) hb2.size ?_; intro v3 w3 hown3 hg3 _; have hb3 := hb2.grown hg3 hb2.size (fun k e => (hown2.lt k e).1); clear hg3)
    | (at_builtin; refine wpList_append_rd rfl (.tmp 26) (.tmp 31) 26 rfl w.heap.size 9 Try.underlying26 hi hz0 hz1 hz2 rfl (by decide) rfl hown3 rfl (HS2.out.below hb3) (fun u hu => HX.out u (List.mem_of_mem_drop hu)) (by omega) (by decide) hb3.size ?_; intro v4 w4 hown4 hg4 _; have hb4 := hb3.grown hg4 hb3.size (fun k e => (hown3.lt k e).1); clear hg4))
  go_ret
  exact ⟨⟨v4, rfl, by rw [show n - many + m = 0 + at_ + m + (n - (at_ + many)) by omega]; simpa using hown4⟩, hb4⟩

end Go.Proofs.Ytajkoeodabmgeaa
end

section
namespace Go.Proofs.Ytajkoeodabmgeaa
open Go.RowKit
set_option maxHeartbeats 2000000
set_option maxRecDepth 100000
attribute [local go_sem] grow_cell grow_frozen grow_size

theorem two_nodes {w w1 : World} {a b c d e f : Value} (h : Below (w.heap.size + 1 + 1) ((w.alloc (.cells #[a, b, c] 29)).alloc (.cells #[d, e, f] 29)) w1) :
    (w1.cell? ⟨w.heap.size, 0, none⟩ = some a ∧ w1.cell? ⟨w.heap.size, 1, none⟩ = some b ∧ w1.cell? ⟨w.heap.size, 2, none⟩ = some c) ∧
    (w1.cell? ⟨w.heap.size + 1, 0, none⟩ = some d ∧ w1.cell? ⟨w.heap.size + 1, 1, none⟩ = some e ∧ w1.cell? ⟨w.heap.size + 1, 2, none⟩ = some f) ∧ w.heap.size + 1 < w1.heap.size := by
  have h0 : w1.heap[w.heap.size]? = some (.cells #[a, b, c] 29 (0, 0)) := (h.block _ (by omega)).trans ((Below.heap_alloc _ _ _ (by simp)).trans (heap_alloc_new w _))
  have h1 : w1.heap[w.heap.size + 1]? = some (.cells #[d, e, f] 29 (0, 0)) := (h.block _ (by omega)).trans (alloc2_at w _ _)
  have := h.size
  simp only [World.size_alloc] at this
  exact ⟨⟨cell_of_row _ _ 0 _ _ _ h0, cell_of_row _ _ 1 _ _ _ h0, cell_of_row _ _ 2 _ _ _ h0⟩, ⟨cell_of_row _ _ 0 _ _ _ h1, cell_of_row _ _ 1 _ _ _ h1, cell_of_row _ _ 2 _ _ _ h1⟩, by omega⟩

theorem RdN.nodes {w w1 : World} {A0 A1 A2 : Option Addr} {c0 c1 c2 : Nat} {nd : NodeD} {o p : Obj} (h : RdN w A0 c0 A1 c1 A2 c2 nd)
    (hb : Below (w.heap.size + 1 + 1) ((w.alloc o).alloc p) w1) : RdN w1 A0 c0 A1 c1 A2 c2 nd :=
  (h.below (((Below.refl _ _).alloc (Nat.le_refl _) _).alloc (by simp) _)).below (hb.mono (by simp))

/-- A load of a kid out of the middle of a block, in a region that draws its order. -/
theorem wpQuiet_load85 {w : World} {ops : Array Oper} {Q : Act → Prop} {a : Act} {o : Oper} {rest : List Oper} (hw : Region.wanted o (yielded ops a.tmps) = true) (x : Operand) (ho : o.op = .load 85 x)
    (b off : Nat) (hx : a.eval x = .pointer (some ⟨b, off, none⟩)) (k : KidD) (hl : k.sum.length = 32) (hr : w.rangeAt b off k.cells)
    (h : wpQuiet Try.prog ops (fun w' => ∃ x, w' = grow w x) Q rest (a.put o.dst (.agg (vK k)))) : wpQuiet Try.prog ops (fun w' => ∃ x, w' = grow w x) Q (o :: rest) a := by
  refine wpQuiet_step fun K hK => ?_
  rw [if_pos hw]
  refine ⟨.agg (vK k), ?_, hK _ h⟩
  rintro w' ⟨e, rfl⟩
  have hr' : (grow w e).rangeAt b off k.cells := fun j v hv => by
    have h1 := hr j v hv
    rw [grow_cell _ _ _ (World.block_lt_of_cell? _ _ h1)]
    exact h1
  unfold Oper.quietAt execOp
  simp only [ho, hx, Instr.loadAt, Instr.sureAddr, Sem.run_bind, Sem.run_pure, Result.andThen_ok, run_loadVar_mid (grow w e) b off 85 k.cells _ hr' Try.underlying85 rfl (by rw [show k.cells.length = 33 by simp [KidD.cells, hl]]; exact info85)]
  exact ⟨rfl, rfl⟩

theorem eqGuard85 : Try.prog.eqGuardType Try.prog.depth 85 = false := by kernel_rfl
theorem stood85 : Try.prog.stoodInHeld 85 = false := by kernel_rfl
theorem fields85 : Try.prog.underlying 85 = some (.struct (Try.prog.fieldsOf 85)) := by kernel_rfl
theorem fieldsOf85 : (Try.prog.fieldsOf 85).toList = [⟨"Page", 81, 0, false, "", "", 0⟩, ⟨"Sum", 83, 1, false, "", "", 4⟩] := by kernel_rfl

theorem partPage (k : KidD) (W : World) : (part 81 (vK k) 0).run Try.prog W = .ok (.int .u32 k.page) W := by
  simp [part, isAgg, run_underlying Try.underlying81, vK, KidD.cells]
theorem partSum (k : KidD) (hl : k.sum.length = 32) (W : World) : (part 83 (vK k) 1).run Try.prog W = .ok (.agg (vD k.sum)) W := by
  have hs : (sizeOf 83).run Try.prog W = .ok 32 W := by
    obtain ⟨i, hi, h1⟩ : ∃ i, Try.prog.info? 83 = some i ∧ i.size = 32 := by
      cases hq : Try.prog.info? 83 with
      | none => have := info83; simp [hq] at this
      | some i => exact ⟨i, rfl, by have := info83; simpa [hq] using this⟩
    simp [sizeOf, typeInfo, hi, h1]
  have he : (vK k).extract 1 (1 + 32) = vD k.sum := by
    have h1 : vK k = (#[Value.int .u32 k.page] ++ vD k.sum) := by simp [vK, KidD.cells, vD]
    rw [h1]
    have h2 : (vD k.sum).size = 32 := vD_size _ hl
    apply Array.ext
    · simp [h2]
    · intro i h3 h4
      simp
  simp only [part, isAgg, Sem.run_bind, run_underlying Try.underlying83, Result.andThen_ok, Sem.run_pure, hs, he, if_true]

def kidEq (a b : KidD) : Bool := (a.page == b.page) && decide (a.sum = b.sum)
theorem kidEq_refl (a : KidD) : kidEq a a = true := by simp [kidEq]

theorem equalIn_vK (a b : KidD) (ha : a.sum.length = 32) (hb : b.sum.length = 32) (W : World) :
    (Op.equalIn 10000 85 (.agg (vK a)) (.agg (vK b))).run Try.prog W = .ok (kidEq a b) W := by
  rw [run_equalIn_struct W 9999 85 _ _ fields85 stood85, fieldsOf85]
  have h1 : (Op.equalIn 9999 81 (.int .u32 a.page) (.int .u32 b.page)).run Try.prog W = .ok (a.page == b.page) W := run_equalIn_int W 9998 81 .u32 .u32 _ _ Try.underlying81
  have h2 := equalIn_vD a.sum b.sum ha hb 9997 83 Try.underlying83 W
  rw [Op.eqFields, if_pos (by decide)]
  simp only [Sem.run_bind, partPage, Result.andThen_ok, h1]
  cases hp : (a.page == b.page) with
  | false => simp [kidEq, hp]
  | true =>
    simp only [Bool.not_true, Bool.false_eq_true, if_false]
    rw [Op.eqFields, if_pos (by decide)]
    simp only [Sem.run_bind, partSum a ha, partSum b hb, Result.andThen_ok, h2]
    cases hs : decide (a.sum = b.sum) with
    | false => simp [kidEq, hs]
    | true => simp [kidEq, hs, hp, Op.eqFields]

theorem neq_vK (a b : KidD) (ha : a.sum.length = 32) (hb : b.sum.length = 32) (W : World) (x y : Operand) :
    (do eqGuard .neq 85 x y (.agg (vK a)) (.agg (vK b)); binOp .neq 85 (.agg (vK a)) (.agg (vK b)) : Sem Value).run Try.prog W = .ok (.bool (!kidEq a b)) W := by
  simp only [Sem.run_bind, run_eqGuard_agg W .neq 85 x y _ _ eqGuard85, Result.andThen_ok, run_neq_struct, equalIn_vK a b ha hb W]

/-- `!=` of two kids in a region that draws its order. -/
theorem wpQuiet_neq85 {C : World → Prop} {ops : Array Oper} {Q : Act → Prop} {a : Act} {o : Oper} {rest : List Oper} (hw : Region.wanted o (yielded ops a.tmps) = true) (x y : Operand) (ho : o.op = .binOp .neq 85 x y 85)
    (k l : KidD) (hx : a.eval x = .agg (vK k)) (hy : a.eval y = .agg (vK l)) (hk : k.sum.length = 32) (hl : l.sum.length = 32)
    (h : wpQuiet Try.prog ops C Q rest (a.put o.dst (.bool (!kidEq k l)))) : wpQuiet Try.prog ops C Q (o :: rest) a := by
  refine wpQuiet_step fun K hK => ?_
  rw [if_pos hw]
  refine ⟨.bool (!kidEq k l), ?_, hK _ h⟩
  intro W _
  unfold Oper.quietAt execOp
  simp only [ho, hx, hy]
  have := neq_vK k l hk hl W x y
  simp only [Sem.run_bind] at this ⊢
  rw [this]
  exact ⟨rfl, rfl⟩

end Go.Proofs.Ytajkoeodabmgeaa
end

section
namespace Go.Proofs.Ytajkoeodabmgeaa
open Go.RowKit
set_option maxHeartbeats 2000000
set_option maxRecDepth 100000
attribute [local go_sem] grow_cell grow_frozen grow_size

theorem same_c (A0 A1 A2 B0 B1 B2 : Option Addr) (c0 c1 c2 d0 d1 d2 : Nat) (nd : NodeD) (w : World) (hA : RdN w A0 c0 A1 c1 A2 c2 nd) (hB : RdN w B0 d0 B1 d1 B2 d2 nd) :
    Calls Try.prog 50 #[vN A0 c0 A1 c1 A2 c2 nd, vN B0 d0 B1 d1 B2 d2 nd] w fun e w' => e = .returned (.bool true) ∧ Below w.heap.size w w' := by
  have hpl := hA.hp
  have hsl := hA.hs
  have hkl := hA.hk
  have HKK := Lib.hid hA.kk
  have HA := Lib.hid hA
  have HB := Lib.hid hB
  have e1 : ((nd.pairs.length : Int) != nd.pairs.length) = false := by simp
  have e2 : ((nd.seps.length : Int) != nd.seps.length) = false := by simp
  have e3 : ((nd.kids.length : Int) != nd.kids.length) = false := by simp
  clear hA hB
  go_enter Try.func50, Try.ntmps50
  go_wp2
  go_loopw [5] (fun i wr => ∃ k : Nat, k ≤ nd.pairs.length ∧ i = .int .i64 k ∧ Below (w.heap.size + 1 + 1) ((w.alloc (.cells #[.slice A0 nd.pairs.length c0, .slice A1 nd.seps.length c1, .slice A2 nd.kids.length c2] 29)).alloc (.cells #[.slice B0 nd.pairs.length d0, .slice B1 nd.seps.length d1, .slice B2 nd.kids.length d2] 29)) wr) (fun i _ => nd.pairs.length - (intOf i).toNat)
  case atStart => exact ⟨0, Nat.zero_le _, rfl, Below.refl _ _⟩
  case round =>
    obtain ⟨k, hk, rfl, hBB⟩ := hrel
    obtain ⟨⟨q0, q1, q2⟩, ⟨q3, q4, q5⟩, q6⟩ := two_nodes hBB
    have q7 : w.heap.size < wr.heap.size := by omega
    by_cases hlt : k < nd.pairs.length
    · obtain ⟨ab, ao, rfl, hk0, hk1⟩ := pairs_at (HA.out.nodes hBB).pairs hlt
      obtain ⟨bb, bo, rfl, hj0, hj1⟩ := pairs_at (HB.out.nodes hBB).pairs hlt
      have habl : ab < wr.heap.size := World.block_lt_of_cell? _ _ hk0
      have hbbl : bb < wr.heap.size := World.block_lt_of_cell? _ _ hj0
      have hki : (k : Int) < nd.pairs.length := by omega
      go_wp2
      refine wp_region_grow (by kernel_rfl) (by kernel_rfl) ?_
      repeat (any_goals (first | go_big_quiet_step (fail) | quiet_step (fail)))
      refine wpQuiet_nil ?_
      intro w3 hb
      go_wp2
      go_roundw
      case rel => exact ⟨k + 1, by omega, by go_num, below_s0 hBB (by omega) hb⟩
      case measure => simp [intOf]; omega
    · have hlt' : ¬ ((k : Int) < nd.pairs.length) := by omega
      go_wp2
      clear q0 q1 q2 q3 q4 q5 q6
      obtain ⟨wa, rfl⟩ : ∃ wa : World, wa = wr := ⟨_, rfl⟩
      go_loopw [6] (fun i wr => ∃ k : Nat, k ≤ nd.seps.length ∧ i = .int .i64 k ∧ Below (w.heap.size + 1 + 1) ((w.alloc (.cells #[.slice A0 nd.pairs.length c0, .slice A1 nd.seps.length c1, .slice A2 nd.kids.length c2] 29)).alloc (.cells #[.slice B0 nd.pairs.length d0, .slice B1 nd.seps.length d1, .slice B2 nd.kids.length d2] 29)) wr) (fun i _ => nd.seps.length - (intOf i).toNat)
      case atStart => exact ⟨0, Nat.zero_le _, rfl, hBB⟩
      case round =>
        clear hBB
        obtain ⟨k2, hk2, rfl, hBB⟩ := hrel
        obtain ⟨⟨q0, q1, q2⟩, ⟨q3, q4, q5⟩, q6⟩ := two_nodes hBB
        have q7 : w.heap.size < wr.heap.size := by omega
        by_cases hlt : k2 < nd.seps.length
        · obtain ⟨ab, ao, rfl, hk0⟩ := seps_at (HA.out.nodes hBB).seps hlt
          obtain ⟨bb, bo, rfl, hj0⟩ := seps_at (HB.out.nodes hBB).seps hlt
          have habl : ab < wr.heap.size := World.block_lt_of_cell? _ _ hk0
          have hbbl : bb < wr.heap.size := World.block_lt_of_cell? _ _ hj0
          have hki : (k2 : Int) < nd.seps.length := by omega
          go_wp2
          refine wp_region_grow (by kernel_rfl) (by kernel_rfl) ?_
          repeat (any_goals (first | go_big_quiet_step (fail) | quiet_step (fail)))
          refine wpQuiet_nil ?_
          intro w3 hb
          go_wp2
          go_roundw
          case rel => exact ⟨k2 + 1, by omega, by go_num, below_s0 hBB (by omega) hb⟩
          case measure => simp [intOf]; omega
        · have hlt' : ¬ ((k2 : Int) < nd.seps.length) := by omega
          go_wp2
          clear q0 q1 q2 q3 q4 q5 q6
          obtain ⟨wb, rfl⟩ : ∃ wb : World, wb = wr := ⟨_, rfl⟩
          go_loopw [7] (fun i wr => ∃ k : Nat, k ≤ nd.kids.length ∧ i = .int .i64 k ∧ Below (w.heap.size + 1 + 1) ((w.alloc (.cells #[.slice A0 nd.pairs.length c0, .slice A1 nd.seps.length c1, .slice A2 nd.kids.length c2] 29)).alloc (.cells #[.slice B0 nd.pairs.length d0, .slice B1 nd.seps.length d1, .slice B2 nd.kids.length d2] 29)) wr) (fun i _ => nd.kids.length - (intOf i).toNat)
          case atStart => exact ⟨0, Nat.zero_le _, rfl, hBB⟩
          case round =>
            clear hBB
            obtain ⟨k3, hk3, rfl, hBB⟩ := hrel
            obtain ⟨⟨q0, q1, q2⟩, ⟨q3, q4, q5⟩, q6⟩ := two_nodes hBB
            have q7 : w.heap.size < wr.heap.size := by omega
            by_cases hlt : k3 < nd.kids.length
            · obtain ⟨ab, ao, rfl, hk0⟩ := kids_at (HA.out.nodes hBB).kids HKK.out hlt
              obtain ⟨bb, bo, rfl, hj0⟩ := kids_at (HB.out.nodes hBB).kids HKK.out hlt
              have hsum := Lib.hid (HKK.out _ (List.getElem_mem hlt))
              have HK0 := Lib.hid hk0
              have HJ0 := Lib.hid hj0
              have hre : (!kidEq nd.kids[k3] nd.kids[k3]) = false := by rw [kidEq_refl]; rfl
              have hki : (k3 : Int) < nd.kids.length := by omega
              clear hk0 hj0
              go_wp2
              refine wp_region_grow (by kernel_rfl) (by kernel_rfl) ?_
              repeat (any_goals (first
                | (refine wpQuiet_load85 (o := ⟨some 80, _, _, _, _, _⟩) rfl (.tmp 79) rfl ab _ rfl nd.kids[k3] hsum.out HK0.out ?_)
                | (refine wpQuiet_load85 (o := ⟨some 85, _, _, _, _, _⟩) rfl (.tmp 84) rfl bb _ rfl nd.kids[k3] hsum.out HJ0.out ?_)
                | (refine wpQuiet_neq85 (o := ⟨some 86, _, _, _, _, _⟩) rfl (.tmp 80) (.tmp 85) rfl nd.kids[k3] nd.kids[k3] rfl rfl hsum.out hsum.out ?_)
                | go_big_quiet_step (fail) | quiet_step (fail)))
              refine wpQuiet_nil ?_
              intro w3 hb
              rw [hre]
              go_wp2
              go_roundw
              case rel => exact ⟨k3 + 1, by omega, by go_num, below_s0 hBB (by omega) hb⟩
              case measure => simp [intOf]; omega
            · have hlt' : ¬ ((k3 : Int) < nd.kids.length) := by omega
              go_wp2
              go_ret
              exact ⟨rfl, below_aa (hBB.mono (by simp))⟩

end Go.Proofs.Ytajkoeodabmgeaa
end

section
namespace Go.Proofs.Ytajkoeodabmgeaa
open Go.RowKit

/-- The blocks outside a set are as they were. -/
structure Kept (S : Nat → Prop) (w w' : World) : Prop where
  os : w'.os = w.os
  tape : w'.tape = w.tape
  output : w'.output = w.output
  size : w.heap.size ≤ w'.heap.size
  block : ∀ k, k < w.heap.size → ¬ S k → w'.heap[k]? = w.heap[k]?

theorem Kept.refl (S : Nat → Prop) (w : World) : Kept S w w := ⟨rfl, rfl, rfl, Nat.le_refl _, fun _ _ _ => rfl⟩
theorem Kept.of_below {S : Nat → Prop} {w w' : World} (h : Below w.heap.size w w') : Kept S w w' := ⟨h.os, h.tape, h.output, h.size, fun k hk _ => h.block k hk⟩
theorem Kept.mono {S T : Nat → Prop} {w w' : World} (h : Kept S w w') (hs : ∀ k, S k → T k) : Kept T w w' := ⟨h.os, h.tape, h.output, h.size, fun k hk ht => h.block k hk fun hs' => ht (hs k hs')⟩
theorem Kept.below {S : Nat → Prop} {w w' : World} (h : Kept S w w') {B : Nat} (hB : B ≤ w.heap.size) (hs : ∀ k, k < B → ¬ S k) : Below B w w' :=
  ⟨h.os, h.tape, h.output, h.size, fun k hk => h.block k (by omega) (hs k hk)⟩
theorem Kept.trans {S : Nat → Prop} {a b c : World} (h : Kept S a b) (k : Kept S b c) : Kept S a c :=
  ⟨k.os.trans h.os, k.tape.trans h.tape, k.output.trans h.output, Nat.le_trans h.size k.size, fun i hi hs => (k.block i (by have := h.size; omega) hs).trans (h.block i hi hs)⟩
theorem Kept.step {S : Nat → Prop} {a b c : World} (h : Kept S a b) (k : Below b.heap.size b c) : Kept S a c := h.trans (.of_below k)
theorem Kept.alloc {S : Nat → Prop} {a b : World} (h : Kept S a b) (o : Obj) : Kept S a (b.alloc o) := h.step ((Below.refl _ _).alloc (Nat.le_refl _) _)
/-- An append onto a row whose block, where it had one, lies in the set or is younger. -/
theorem Kept.grown {S : Nat → Prop} {a b c : World} {row : Option Nat} (h : Kept S a b) (hg : b.grownBy c row) (hr : ∀ k, row = some k → k < a.heap.size → S k) : Kept S a c := by
  obtain ⟨h1, h2, h3, h4, h5⟩ := hg
  refine ⟨h1.trans h.os, h2.trans h.tape, h3.trans h.output, Nat.le_trans h.size h4, fun k hk hs => ?_⟩
  rw [h5 k (by have := h.size; omega) (fun e => hs (hr k e.symm hk))]
  exact h.block k hk hs

theorem own_rd' {w : World} {base : Nat} {e : TypeId} {size n c : Nat} {A : Option Addr} {xs : List Value} (h : w.ownsRow base e size (.slice A n c) n xs) : n ≤ c ∧ Rd w size A n xs := by
  obtain ⟨A', c', hv, h1, h2⟩ := own_rd h
  cases hv
  exact ⟨h1, h2⟩

theorem own_lt {w : World} {base : Nat} {e : TypeId} {size n : Nat} {v : Value} {xs : List Value} (h : w.ownsRow base e size v n xs) : ∀ k, v.ownBlock = some k → k < w.heap.size := fun k hk => (h.lt k hk).2

theorem own_kept {w w' : World} {base : Nat} {e : TypeId} {size n : Nat} {v : Value} {xs : List Value} {S : Nat → Prop} (h : w.ownsRow base e size v n xs) (hb : Kept S w w') (hs : ∀ k, v.ownBlock = some k → ¬ S k) : w'.ownsRow base e size v n xs := by
  obtain ⟨h1, h2⟩ := h
  rcases h2 with h2 | ⟨g, cap, cur, rfl, hg, hh, hrest⟩
  · exact ⟨h1, .inl h2⟩
  · exact ⟨h1, .inr ⟨g, cap, cur, rfl, hg, (hb.block g (Array.getElem?_eq_some_iff.1 hh).1 (hs g rfl)).trans hh, hrest⟩⟩

theorem ownsRow_mono' {w : World} {base base' : Nat} {e : TypeId} {size n : Nat} {v : Value} {xs : List Value} (h : w.ownsRow base e size v n xs) (hb : base' ≤ base) : w.ownsRow base' e size v n xs := by
  obtain ⟨h1, h2 | ⟨g, cap, cur, hv, hg, hr⟩⟩ := h
  · exact ⟨h1, .inl h2⟩
  · exact ⟨h1, .inr ⟨g, cap, cur, hv, Nat.le_trans hb hg, hr⟩⟩

/-- A node in rows of its own, in blocks from lo on and below hi. -/
structure OwN (w : World) (lo hi : Nat) (A0 : Option Addr) (c0 : Nat) (A1 : Option Addr) (c1 : Nat) (A2 : Option Addr) (c2 : Nat) (nd : NodeD) : Prop where
  pairs : w.ownsRow lo 31 2 (.slice A0 nd.pairs.length c0) nd.pairs.length (pcells nd.pairs)
  seps : w.ownsRow lo 9 1 (.slice A1 nd.seps.length c1) nd.seps.length (scells nd.seps)
  kids : w.ownsRow lo 85 33 (.slice A2 nd.kids.length c2) nd.kids.length (kcells nd.kids)
  u0 : ∀ k, (Value.slice A0 nd.pairs.length c0).ownBlock = some k → k < hi
  u1 : ∀ k, (Value.slice A1 nd.seps.length c1).ownBlock = some k → k < hi
  u2 : ∀ k, (Value.slice A2 nd.kids.length c2).ownBlock = some k → k < hi
  hp : nd.pairs.length * 32 ≤ 140737488355328
  hs : nd.seps.length * 16 ≤ 140737488355328
  hk : nd.kids.length * 36 ≤ 140737488355328
  pk : ∀ p ∈ nd.pairs, p.k.size ≤ 140737488355328 ∧ p.v.size ≤ 140737488355328
  sk : ∀ s ∈ nd.seps, s.size ≤ 140737488355328
  kk : ∀ k ∈ nd.kids, k.sum.length = 32

section
variable {w w' : World} {lo hi : Nat} {A0 A1 A2 : Option Addr} {c0 c1 c2 : Nat} {nd : NodeD}
theorem OwN.rd (h : OwN w lo hi A0 c0 A1 c1 A2 c2 nd) : RdN w A0 c0 A1 c1 A2 c2 nd :=
  ⟨(own_rd' h.pairs).2, (own_rd' h.seps).2, (own_rd' h.kids).2, h.hp, h.hs, h.hk, (own_rd' h.pairs).1, (own_rd' h.seps).1, (own_rd' h.kids).1, h.pk, h.sk, h.kk⟩
theorem OwN.kept {S : Nat → Prop} (h : OwN w lo hi A0 c0 A1 c1 A2 c2 nd) (hb : Kept S w w') (hs : ∀ k, lo ≤ k → k < hi → ¬ S k) : OwN w' lo hi A0 c0 A1 c1 A2 c2 nd :=
  ⟨own_kept h.pairs hb fun k hk => hs k (h.pairs.lt k hk).1 (h.u0 k hk), own_kept h.seps hb fun k hk => hs k (h.seps.lt k hk).1 (h.u1 k hk), own_kept h.kids hb fun k hk => hs k (h.kids.lt k hk).1 (h.u2 k hk),
    h.u0, h.u1, h.u2, h.hp, h.hs, h.hk, h.pk, h.sk, h.kk⟩
theorem OwN.below (h : OwN w lo hi A0 c0 A1 c1 A2 c2 nd) (hb : Below w.heap.size w w') : OwN w' lo hi A0 c0 A1 c1 A2 c2 nd :=
  h.kept (S := fun _ => False) (.of_below hb) (fun _ _ _ => id)
theorem OwN.wide (h : OwN w lo hi A0 c0 A1 c1 A2 c2 nd) {lo' hi' : Nat} (h1 : lo' ≤ lo) (h2 : hi ≤ hi') : OwN w lo' hi' A0 c0 A1 c1 A2 c2 nd :=
  ⟨ownsRow_mono' h.pairs h1, ownsRow_mono' h.seps h1, ownsRow_mono' h.kids h1, fun k hk => Nat.lt_of_lt_of_le (h.u0 k hk) h2, fun k hk => Nat.lt_of_lt_of_le (h.u1 k hk) h2, fun k hk => Nat.lt_of_lt_of_le (h.u2 k hk) h2,
    h.hp, h.hs, h.hk, h.pk, h.sk, h.kk⟩
end

/-- Room for so many more. -/
structure Room (r : Nat) (nd : NodeD) : Prop where
  p : (nd.pairs.length + r) * 32 ≤ 140737488355328
  s : (nd.seps.length + r) * 16 ≤ 140737488355328
  k : (nd.kids.length + r) * 36 ≤ 140737488355328

theorem pcells_len (l : List PairD) : (pcells l).length = l.length * 2 := by
  induction l with
  | nil => rfl
  | cons a l ih => simp [pcells, PairD.cells] at ih ⊢; omega
theorem scells_len (l : List ByteArray) : (scells l).length = l.length * 1 := by simp [scells]
theorem kcells_len (l : List KidD) (h : ∀ k ∈ l, k.sum.length = 32) : (kcells l).length = l.length * 33 := by
  induction l with
  | nil => rfl
  | cons a l ih =>
    have h1 := ih fun k hk => h k (List.mem_cons_of_mem _ hk)
    have h2 := h a (List.mem_cons_self ..)
    simp [kcells, KidD.cells, h2] at h1 ⊢; omega
theorem pc1 (l : List PairD) : ∀ u ∈ pcells l, u.oneCell' = true := by
  intro u hu
  simp only [pcells, List.mem_flatMap] at hu
  obtain ⟨p, _, hu⟩ := hu
  simp only [PairD.cells, List.mem_cons, List.not_mem_nil, or_false] at hu
  rcases hu with rfl | rfl <;> rfl
theorem sc1 (l : List ByteArray) : ∀ u ∈ scells l, u.oneCell' = true := by
  intro u hu
  simp only [scells, List.mem_map] at hu
  obtain ⟨p, _, rfl⟩ := hu
  rfl
theorem kc1 (l : List KidD) : ∀ u ∈ kcells l, u.oneCell' = true := by
  intro u hu
  simp only [kcells, List.mem_flatMap] at hu
  obtain ⟨p, _, hu⟩ := hu
  simp only [KidD.cells, List.mem_cons, List.mem_map] at hu
  rcases hu with rfl | ⟨x, _, rfl⟩ <;> rfl

theorem pcells_append (a b : List PairD) : pcells (a ++ b) = pcells a ++ pcells b := List.flatMap_append
theorem kcells_append (a b : List KidD) : kcells (a ++ b) = kcells a ++ kcells b := List.flatMap_append
theorem scells_append (a b : List ByteArray) : scells (a ++ b) = scells a ++ scells b := List.map_append
theorem pcells_take (l : List PairD) (k : Nat) : (pcells l).take (k * 2) = pcells (l.take k) := by
  induction l generalizing k with
  | nil => simp [pcells]
  | cons a l ih =>
    cases k with
    | zero => simp [pcells]
    | succ k =>
      have := ih k
      simp only [pcells, List.flatMap_cons, List.take_succ_cons, PairD.cells] at this ⊢
      rw [show (k + 1) * 2 = k * 2 + 1 + 1 by omega]
      simp [this]
theorem pcells_drop (l : List PairD) (k : Nat) : (pcells l).drop (k * 2) = pcells (l.drop k) := by
  induction l generalizing k with
  | nil => simp [pcells]
  | cons a l ih =>
    cases k with
    | zero => simp [pcells]
    | succ k =>
      have := ih k
      simp only [pcells, List.flatMap_cons, List.drop_succ_cons, PairD.cells] at this ⊢
      rw [show (k + 1) * 2 = k * 2 + 1 + 1 by omega]
      simp [this]
theorem scells_take (l : List ByteArray) (k : Nat) : (scells l).take (k * 1) = scells (l.take k) := by simp [scells, List.map_take]
theorem scells_drop (l : List ByteArray) (k : Nat) : (scells l).drop (k * 1) = scells (l.drop k) := by simp [scells, List.map_drop]
theorem kcells_take (l : List KidD) (k : Nat) (h : ∀ x ∈ l, x.sum.length = 32) : (kcells l).take (k * 33) = kcells (l.take k) := by
  induction l generalizing k with
  | nil => simp [kcells]
  | cons a l ih =>
    cases k with
    | zero => simp [kcells]
    | succ k =>
      have h2 := h a (List.mem_cons_self ..)
      have := ih k fun k hk => h k (List.mem_cons_of_mem _ hk)
      have hl : a.cells.length = 33 := by simp [KidD.cells, h2]
      simp only [kcells, List.flatMap_cons, List.take_succ_cons] at this ⊢
      rw [List.take_append, hl, show (k + 1) * 33 - 33 = k * 33 by omega, this, List.take_of_length_le (by omega)]
theorem kcells_drop (l : List KidD) (k : Nat) (h : ∀ x ∈ l, x.sum.length = 32) : (kcells l).drop (k * 33) = kcells (l.drop k) := by
  induction l generalizing k with
  | nil => simp [kcells]
  | cons a l ih =>
    cases k with
    | zero => simp [kcells]
    | succ k =>
      have h2 := h a (List.mem_cons_self ..)
      have := ih k fun k hk => h k (List.mem_cons_of_mem _ hk)
      have hl : a.cells.length = 33 := by simp [KidD.cells, h2]
      simp only [kcells, List.flatMap_cons, List.drop_succ_cons] at this ⊢
      rw [List.drop_append, hl, show (k + 1) * 33 - 33 = k * 33 by omega, this, List.drop_of_length_le (by omega), List.nil_append]

end Go.Proofs.Ytajkoeodabmgeaa
end

section
namespace Go.Proofs.Ytajkoeodabmgeaa
open Go.RowKit
set_option maxHeartbeats 2000000
set_option maxRecDepth 100000
attribute [local go_sem] grow_cell grow_frozen grow_size

abbrev vP (p : PairD) : Value := .agg #[.string p.k, .string p.v]
/-- The world of Put's four blocks. -/
abbrev putW (w : World) (a b c d e f g : Value) : World :=
  (((w.alloc (.cells #[a, b] 24)).alloc (.cells #[c, d, e] 29)).alloc (.cells #[f, g] 31)).alloc (.cells #[.slice none 0 0, .slice none 0 0, .slice none 0 0] 29)

theorem alloc4_at (w : World) (A B C D : Obj) : ((((w.alloc A).alloc B).alloc C).alloc D).heap[w.heap.size + 1 + 1 + 1]? = some D := by
  have := heap_alloc_new (((w.alloc A).alloc B).alloc C) D
  rwa [show (((w.alloc A).alloc B).alloc C).heap.size = w.heap.size + 1 + 1 + 1 by simp] at this

theorem put_row {w w1 : World} {a b c d e f g : Value} (h : Below (w.heap.size + 1 + 1 + 1 + 1) (putW w a b c d e f g) w1) :
    w1.heap[w.heap.size + 1 + 1 + 1]? = some (.cells #[.slice none 0 0, .slice none 0 0, .slice none 0 0] 29 (0, 0)) := (h.block _ (by omega)).trans (alloc4_at w _ _ _ _)
theorem put_lt {w w1 : World} {a b c d e f g : Value} (h : Below (w.heap.size + 1 + 1 + 1 + 1) (putW w a b c d e f g) w1) : w.heap.size + 1 + 1 + 1 < w1.heap.size := by
  have := h.size
  simp only [World.size_alloc, putW] at this
  omega
theorem put_boxes {w w1 : World} {a b c d e f g : Value} (h : Below (w.heap.size + 1 + 1 + 1 + 1) (putW w a b c d e f g) w1) :
    (w1.cell? ⟨w.heap.size, 0, none⟩ = some a ∧ w1.cell? ⟨w.heap.size, 1, none⟩ = some b) ∧
    (w1.cell? ⟨w.heap.size + 1, 0, none⟩ = some c ∧ w1.cell? ⟨w.heap.size + 1, 1, none⟩ = some d ∧ w1.cell? ⟨w.heap.size + 1, 2, none⟩ = some e) ∧
    (w1.cell? ⟨w.heap.size + 1 + 1, 0, none⟩ = some f ∧ w1.cell? ⟨w.heap.size + 1 + 1, 1, none⟩ = some g) := by
  have h0 : w1.heap[w.heap.size]? = some (.cells #[a, b] 24 (0, 0)) := (h.block _ (by omega)).trans ((Below.heap_alloc _ _ _ (by simp <;> omega)).trans (alloc3_0 w _ _ _))
  have h1 : w1.heap[w.heap.size + 1]? = some (.cells #[c, d, e] 29 (0, 0)) := (h.block _ (by omega)).trans ((Below.heap_alloc _ _ _ (by simp <;> omega)).trans (alloc3_1 w _ _ _))
  have h2 : w1.heap[w.heap.size + 1 + 1]? = some (.cells #[f, g] 31 (0, 0)) := (h.block _ (by omega)).trans ((Below.heap_alloc _ _ _ (by simp)).trans (alloc3_at w _ _ _))
  exact ⟨⟨cell_of_row _ _ 0 _ _ _ h0, cell_of_row _ _ 1 _ _ _ h0⟩, ⟨cell_of_row _ _ 0 _ _ _ h1, cell_of_row _ _ 1 _ _ _ h1, cell_of_row _ _ 2 _ _ _ h1⟩, ⟨cell_of_row _ _ 0 _ _ _ h2, cell_of_row _ _ 1 _ _ _ h2⟩⟩
theorem put_base {w : World} {a b c d e f g : Value} : Below w.heap.size w (putW w a b c d e f g) :=
  (((((Below.refl _ _).alloc (Nat.le_refl _) _).alloc (by simp) _).alloc (by simp <;> omega) _).alloc (by simp <;> omega) _)
theorem put_start {w : World} {a b c d e f g : Value} : Below (w.heap.size + 1 + 1 + 1 + 1) (putW w a b c d e f g) (putW w a b c d e f g) := Below.refl _ _
theorem put_first {w w1 : World} {a b c d e f g : Value} (hb : Below (putW w a b c d e f g).heap.size (putW w a b c d e f g) w1) : Below (w.heap.size + 1 + 1 + 1 + 1) (putW w a b c d e f g) w1 := hb.mono (by simp [putW])
theorem put_next {w w1 w2 : World} {a b c d e f g : Value} (h : Below (w.heap.size + 1 + 1 + 1 + 1) (putW w a b c d e f g) w1) (hb : Below w1.heap.size w1 w2) : Below (w.heap.size + 1 + 1 + 1 + 1) (putW w a b c d e f g) w2 :=
  h.trans (hb.mono (put_lt h))
theorem put_below {w w1 : World} {a b c d e f g : Value} (h : Below (w.heap.size + 1 + 1 + 1 + 1) (putW w a b c d e f g) w1) : Below w.heap.size w w1 := put_base.trans (h.mono (by omega))
theorem RdN.put {w w1 : World} {a b c d e f g : Value} {A0 A1 A2 : Option Addr} {c0 c1 c2 : Nat} {nd : NodeD} (hN : RdN w A0 c0 A1 c1 A2 c2 nd) (h : Below (w.heap.size + 1 + 1 + 1 + 1) (putW w a b c d e f g) w1) : RdN w1 A0 c0 A1 c1 A2 c2 nd :=
  hN.below (put_below h)
theorem info29' : (Try.prog.info? 29).map (·.size) = some 3 := by kernel_rfl

theorem sl3_one (A0 A1 A2 : Option Addr) (n0 c0 n1 c1 n2 c2 : Nat) : (#[.slice A0 n0 c0, .slice A1 n1 c1, .slice A2 n2 c2] : Array Value).all (·.oneCell') = true := by simp [Value.oneCell']

def noN : NodeD := ⟨[], [], []⟩
theorem own_noN (w : World) (lo hi : Nat) : OwN w lo hi none 0 none 0 none 0 noN :=
  { pairs := World.ownsRow_nil _ _ _ _, seps := World.ownsRow_nil _ _ _ _, kids := World.ownsRow_nil _ _ _ _
    u0 := fun k h => by simp [Value.ownBlock] at h
    u1 := fun k h => by simp [Value.ownBlock] at h
    u2 := fun k h => by simp [Value.ownBlock] at h
    hp := by simp [noN]
    hs := by simp [noN]
    hk := by simp [noN]
    pk := fun p hp => by simp [noN] at hp
    sk := fun p hp => by simp [noN] at hp
    kk := fun p hp => by simp [noN] at hp }

def manyB (b : Bool) : Nat := if b then 1 else 0
/-- A leaf with a pair put in. -/
def putN (nd : NodeD) (p : PairD) : NodeD := ⟨nd.pairs.take (findI nd.pairs p.k) ++ [p] ++ nd.pairs.drop (findI nd.pairs p.k + manyB (findB nd.pairs p.k)), [], []⟩
/-- May the pair come in? -/
def putP (pg : Int) (p : PairD) : Bool := !(p.k.toList == []) && decide ((p.k.size : Int) ≤ pg / 16) && decide ((p.v.size : Int) ≤ pg / 8)
def putE (pg wd : Int) (nd : NodeD) (p : PairD) : Int := if right pg wd then (if leafB pg wd nd then (if putP pg p then 0 else 2) else 80) else 2
def putR (pg wd : Int) (nd : NodeD) (p : PairD) : NodeD := if putE pg wd nd p = 0 then putN nd p else noN
def putB (pg wd : Int) (nd : NodeD) (p : PairD) : Bool := if putE pg wd nd p = 0 then findB nd.pairs p.k else false

theorem leaf_v (pg wd : Int) (A0 A1 A2 : Option Addr) (c0 c1 c2 : Nat) (nd : NodeD) (w : World) (hN : RdN w A0 c0 A1 c1 A2 c2 nd) (b : Bool) (hb : leafB pg wd nd = b) :
    Calls Try.prog 62 #[vF pg wd, vN A0 c0 A1 c1 A2 c2 nd] w fun e w' => e = .returned (.bool b) ∧ Below w.heap.size w w' := by
  subst hb; exact leaf_c pg wd A0 A1 A2 c0 c1 c2 nd w hN

theorem put_err (w w1 : World) (pg wd : Int) (nd : NodeD) (p : PairD) (E : Int) (hE : putE pg wd nd p = E) (hne : E ≠ 0) (hb : Below w.heap.size w w1) :
    ∃ B0 d0, Ending.returned (.tuple #[.agg #[.slice none 0 0, .slice none 0 0, .slice none 0 0], .bool false, .int .i64 E]) = .returned (.tuple #[vN B0 d0 none 0 none 0 (putR pg wd nd p), .bool (putB pg wd nd p), .int .i64 (putE pg wd nd p)]) ∧
      OwN w1 w.heap.size w1.heap.size B0 d0 none 0 none 0 (putR pg wd nd p) ∧ Below w.heap.size w w1 := by
  refine ⟨none, 0, ?_, ?_, hb⟩
  · simp [putR, putB, hE, hne, noN]
  · simp only [putR, hE, if_neg hne]; exact own_noN _ _ _

theorem put_wrong (pg wd : Int) (A0 A1 A2 : Option Addr) (c0 c1 c2 : Nat) (nd : NodeD) (p : PairD) (w : World) (hr : right pg wd = false) :
    Calls Try.prog 22 #[vF pg wd, vN A0 c0 A1 c1 A2 c2 nd, vP p] w fun e w' =>
      ∃ B0 d0, e = .returned (.tuple #[vN B0 d0 none 0 none 0 (putR pg wd nd p), .bool (putB pg wd nd p), .int .i64 (putE pg wd nd p)]) ∧
        OwN w' w.heap.size w'.heap.size B0 d0 none 0 none 0 (putR pg wd nd p) ∧ Below w.heap.size w w' := by
  have hE : putE pg wd nd p = 2 := by simp [putE, hr]
  have HE := Lib.hid hE
  have HR := Lib.hid hr
  clear hE hr
  go_enter Try.func22, Try.ntmps22
  go_wp2_with (first
    | (go_at_call 61; refine (frame_v pg wd _ _ HR.out).mono ?_; rintro e w1 ⟨rfl, hb⟩; have hBB := put_first hb; clear hb; obtain ⟨⟨q0, q1⟩, ⟨q2, q3, q4⟩, q5, q6⟩ := put_boxes hBB; have q7 := put_lt hBB; have HG := Lib.hid (put_row hBB))
    | (refine wpList_store_row rfl 29 (.tmp 6) (.tmp 16) rfl (w.heap.size + 1 + 1 + 1) #[.slice none 0 0, .slice none 0 0, .slice none 0 0] rfl rfl 29 _ HG.out info29' rfl (sl3_one _ _ _ _ _ _ _ _ _) ?_))
  refine bodyPost_ret (results_ctt rfl _ _ (w.heap.size + 1 + 1 + 1) 29 #[.slice none 0 0, .slice none 0 0, .slice none 0 0] (0, 0) _ rfl (setRow_block _ _ _ _ _ _ HG.out) Try.underlying29 rfl info29') rfl ?_
  exact put_err w _ pg wd nd p 2 HE.out (by decide) (below_setRow (put_below hBB) (by omega) _)

theorem put_unshaped (pg wd : Int) (A0 A1 A2 : Option Addr) (c0 c1 c2 : Nat) (nd : NodeD) (p : PairD) (w : World) (hN : RdN w A0 c0 A1 c1 A2 c2 nd) (hr : right pg wd = true) (hl : leafB pg wd nd = false) :
    Calls Try.prog 22 #[vF pg wd, vN A0 c0 A1 c1 A2 c2 nd, vP p] w fun e w' =>
      ∃ B0 d0, e = .returned (.tuple #[vN B0 d0 none 0 none 0 (putR pg wd nd p), .bool (putB pg wd nd p), .int .i64 (putE pg wd nd p)]) ∧
        OwN w' w.heap.size w'.heap.size B0 d0 none 0 none 0 (putR pg wd nd p) ∧ Below w.heap.size w w' := by
  have hE : putE pg wd nd p = 80 := by simp [putE, hr, hl]
  have HE := Lib.hid hE
  have HR := Lib.hid hr
  have HL := Lib.hid hl
  have HN := Lib.hid hN
  clear hE hr hl hN
  go_enter Try.func22, Try.ntmps22
  go_wp2_with (first
    | (go_at_call 61; refine (frame_v pg wd _ _ HR.out).mono ?_; rintro e w1 ⟨rfl, hb⟩; have hBB := put_first hb; clear hb; obtain ⟨⟨q0, q1⟩, ⟨q2, q3, q4⟩, q5, q6⟩ := put_boxes hBB; have q7 := put_lt hBB)
    | (go_at_call 62; refine (leaf_v pg wd A0 A1 A2 c0 c1 c2 nd _ (HN.out.put hBB) _ HL.out).mono ?_; rintro e w2 ⟨rfl, hb⟩; have hBB2 := put_next hBB hb; clear hb q0 q1 q2 q3 q4 q5 q6 q7 hBB; have q7 := put_lt hBB2; have HG := Lib.hid (put_row hBB2))
    | (refine wpList_store_row rfl 29 (.tmp 6) (.tmp 22) rfl (w.heap.size + 1 + 1 + 1) #[.slice none 0 0, .slice none 0 0, .slice none 0 0] rfl rfl 29 _ HG.out info29' rfl (sl3_one _ _ _ _ _ _ _ _ _) ?_))
  refine bodyPost_ret (results_ctt rfl _ _ (w.heap.size + 1 + 1 + 1) 29 #[.slice none 0 0, .slice none 0 0, .slice none 0 0] (0, 0) _ rfl (setRow_block _ _ _ _ _ _ HG.out) Try.underlying29 rfl info29') rfl ?_
  exact put_err w _ pg wd nd p 80 HE.out (by decide) (below_setRow (put_below hBB2) (by omega) _)

theorem put_arg (pg wd : Int) (A0 A1 A2 : Option Addr) (c0 c1 c2 : Nat) (nd : NodeD) (p : PairD) (w : World) (hN : RdN w A0 c0 A1 c1 A2 c2 nd) (hr : right pg wd = true) (hl : leafB pg wd nd = true) (hp : putP pg p = false) :
    Calls Try.prog 22 #[vF pg wd, vN A0 c0 A1 c1 A2 c2 nd, vP p] w fun e w' =>
      ∃ B0 d0, e = .returned (.tuple #[vN B0 d0 none 0 none 0 (putR pg wd nd p), .bool (putB pg wd nd p), .int .i64 (putE pg wd nd p)]) ∧
        OwN w' w.heap.size w'.heap.size B0 d0 none 0 none 0 (putR pg wd nd p) ∧ Below w.heap.size w w' := by
  have hE : putE pg wd nd p = 2 := by simp [putE, hr, hl, hp]
  have HE := Lib.hid hE
  have hrs := right_spec hr
  have HR := Lib.hid hr
  have HL := Lib.hid hl
  have HN := Lib.hid hN
  have h0 : 0 ≤ pg := by omega
  have h1 : pg ≤ 8192 := by omega
  have HP := Lib.hid hp
  clear hE hr hl hN hp
  cases k1 : p.k.toList == []
  case' false => cases k2 : decide (pg / 16 < (p.k.size : Int))
  case' false.false =>
    have k3 : decide (pg / 8 < (p.v.size : Int)) = true := by
      have := HP.out
      have k2 := of_decide_eq_false k2
      simp only [putP, k1, Bool.not_false, Bool.true_and, Bool.and_eq_false_iff, decide_eq_false_iff_not] at this
      exact decide_eq_true (by omega)
  all_goals
    go_enter Try.func22, Try.ntmps22
    go_wp2_with (first
      | (go_at_call 61; refine (frame_v pg wd _ _ HR.out).mono ?_; rintro e w1 ⟨rfl, hb⟩; have hBB := put_first hb; clear hb; obtain ⟨⟨q0, q1⟩, ⟨q2, q3, q4⟩, q5, q6⟩ := put_boxes hBB; have q7 := put_lt hBB)
      | (go_at_call 62; refine (leaf_v pg wd A0 A1 A2 c0 c1 c2 nd _ (HN.out.put hBB) _ HL.out).mono ?_; rintro e w2 ⟨rfl, hb⟩; have hBB2 := put_next hBB hb; clear hb q0 q1 q2 q3 q4 q5 q6 q7 hBB; obtain ⟨⟨q0, q1⟩, ⟨q2, q3, q4⟩, q5, q6⟩ := put_boxes hBB2; have q7 := put_lt hBB2))
    have q8 : w.heap.size < w2.heap.size := by omega
    have q9 : w.heap.size + 1 < w2.heap.size := by omega
    have q10 : w.heap.size + 1 + 1 < w2.heap.size := by omega
    refine wp_region_grow (by kernel_rfl) (by kernel_rfl) ?_
    repeat (any_goals (first
      | go_big_quiet_step ((first | (go_at_call 63; exact quiet_below (maxKey_c pg wd _ h0 h1)) | (go_at_call 64; exact quiet_below (maxVal_c pg wd _ h0 h1))))
      | quiet_step ((first | (go_at_call 63; exact quiet_below (maxKey_c pg wd _ h0 h1)) | (go_at_call 64; exact quiet_below (maxVal_c pg wd _ h0 h1))))))
    refine wpQuiet_nil ?_
    intro w3 hb
    have hBB3 := put_next hBB2 hb
    clear hb q0 q1 q2 q3 q4 q5 q6 q7 q8 q9 q10 hBB2
    have q7 := put_lt hBB3
    have HG := Lib.hid (put_row hBB3)
    go_wp2_with (first
      | (refine wpList_store_row rfl 29 (.tmp 6) (.tmp 43) rfl (w.heap.size + 1 + 1 + 1) #[.slice none 0 0, .slice none 0 0, .slice none 0 0] rfl rfl 29 _ HG.out info29' rfl (sl3_one _ _ _ _ _ _ _ _ _) ?_))
    refine bodyPost_ret (results_ctt rfl _ _ (w.heap.size + 1 + 1 + 1) 29 #[.slice none 0 0, .slice none 0 0, .slice none 0 0] (0, 0) _ rfl (setRow_block _ _ _ _ _ _ HG.out) Try.underlying29 rfl info29') rfl ?_
    exact put_err w _ pg wd nd p 2 HE.out (by decide) (below_setRow (put_below hBB3) (by omega) _)

end Go.Proofs.Ytajkoeodabmgeaa
end

section
namespace Go.Proofs.Ytajkoeodabmgeaa
open Go.RowKit
set_option maxHeartbeats 2000000
set_option maxRecDepth 100000
attribute [local go_sem] grow_cell grow_frozen grow_size

theorem findI_le (ps : List PairD) (k : ByteArray) : findI ps k ≤ ps.length := cntW_le _ _
theorem findB_lt {ps : List PairD} {k : ByteArray} (h : findB ps k = true) : findI ps k < ps.length := by
  unfold findB at h
  split at h
  · rename_i p hp
    exact (List.getElem?_eq_some_iff.1 hp).1
  · cases h
theorem at_many (ps : List PairD) (k : ByteArray) : findI ps k + manyB (findB ps k) ≤ ps.length := by
  have := findI_le ps k
  cases hb : findB ps k with
  | true => have := findB_lt hb; simp [manyB]; omega
  | false => simpa [manyB] using this

theorem one_pair (w : World) (p : PairD) : Rd (w.alloc (.cells #[.string p.k, .string p.v] 31)) 2 (some ⟨w.heap.size, 0, none⟩) 1 (pcells [p]) := by
  refine ⟨by simp [pcells_len], fun _ => ⟨w.heap.size, 0, rfl, fun j u hu => ?_⟩⟩
  rw [Nat.zero_add, cell_of_row _ _ j _ _ _ (heap_alloc_new w _), ← hu]
  simp [pcells, PairD.cells]

theorem putN_len (nd : NodeD) (p : PairD) : (putN nd p).pairs.length = nd.pairs.length - manyB (findB nd.pairs p.k) + 1 := by
  have := at_many nd.pairs p.k
  simp only [putN, List.length_append, List.length_take, List.length_drop, List.length_cons, List.length_nil]
  omega
theorem putN_cells (nd : NodeD) (p : PairD) : pcells (putN nd p).pairs = (pcells nd.pairs).take (findI nd.pairs p.k * 2) ++ pcells [p] ++ (pcells nd.pairs).drop ((findI nd.pairs p.k + manyB (findB nd.pairs p.k)) * 2) := by
  simp only [putN, pcells_append, pcells_take, pcells_drop]

theorem putP_pair (A0 : Option Addr) (c0 : Nat) (nd : NodeD) (p : PairD) (cur : World) (hR : Rd cur 2 A0 nd.pairs.length (pcells nd.pairs)) (hc : nd.pairs.length ≤ c0) (hroom : (nd.pairs.length + 1) * 32 ≤ 140737488355328) (m : Int) (hm : m = (manyB (findB nd.pairs p.k) : Nat)) :
    Calls Try.prog 65 #[.slice A0 nd.pairs.length c0, .int .i64 (findI nd.pairs p.k), .int .i64 m, .slice (some ⟨cur.heap.size, 0, none⟩) 1 1] (cur.alloc (.cells #[.string p.k, .string p.v] 31)) fun e w' =>
      (∃ A c, e = .returned (.slice A (putN nd p).pairs.length c) ∧ w'.ownsRow (cur.heap.size + 1) 31 2 (.slice A (putN nd p).pairs.length c) (putN nd p).pairs.length (pcells (putN nd p).pairs)) ∧ Below cur.heap.size cur w' := by
  subst hm
  have h1 := at_many nd.pairs p.k
  refine (putP_c A0 _ nd.pairs.length c0 1 1 (findI nd.pairs p.k) (manyB (findB nd.pairs p.k)) (pcells nd.pairs) (pcells [p]) _ (hR.below ((Below.refl _ _).alloc (Nat.le_refl _) _)) (one_pair cur p) hc h1 hroom (pc1 _) (pc1 _)).mono ?_
  rintro e w' ⟨⟨v, rfl, hown⟩, hb⟩
  rw [← putN_cells, ← putN_len] at hown
  obtain ⟨A, c, rfl, _, _⟩ := own_rd hown
  exact ⟨⟨A, c, rfl, by simpa using hown⟩, below_a hb⟩

theorem putN_own {w : World} {lo hi : Nat} {nd : NodeD} {p : PairD} {A : Option Addr} {c : Nat}
    (h : w.ownsRow lo 31 2 (.slice A (putN nd p).pairs.length c) (putN nd p).pairs.length (pcells (putN nd p).pairs)) (hhi : w.heap.size ≤ hi)
    (hb : (nd.pairs.length + 1) * 32 ≤ 140737488355328) (hpk : ∀ q ∈ nd.pairs, q.k.size ≤ 140737488355328 ∧ q.v.size ≤ 140737488355328) (hp : p.k.size ≤ 140737488355328 ∧ p.v.size ≤ 140737488355328) :
    OwN w lo hi A c none 0 none 0 (putN nd p) :=
  { pairs := h
    seps := World.ownsRow_nil _ _ _ _
    kids := World.ownsRow_nil _ _ _ _
    u0 := fun k hk => Nat.lt_of_lt_of_le (h.lt k hk).2 hhi
    u1 := fun k h => by simp [Value.ownBlock] at h
    u2 := fun k h => by simp [Value.ownBlock] at h
    hp := by rw [putN_len]; omega
    hs := by simp [putN]
    hk := by simp [putN]
    pk := fun q hq => by
      simp only [putN, List.mem_append, List.mem_singleton] at hq
      rcases hq with (hq | rfl) | hq
      · exact hpk q (List.mem_of_mem_take hq)
      · exact hp
      · exact hpk q (List.mem_of_mem_drop hq)
    sk := fun q hq => by simp [putN] at hq
    kk := fun q hq => by simp [putN] at hq }

/-- A node of one's own, and another block written. -/
theorem OwN.setRow {w : World} {lo hi : Nat} {A0 A1 A2 : Option Addr} {c0 c1 c2 : Nat} {nd : NodeD} (h : OwN w lo hi A0 c0 A1 c1 A2 c2 nd) (g : Nat) (cs : Array Value) (hg : g < lo) : OwN (w.setRow g cs) lo hi A0 c0 A1 c1 A2 c2 nd :=
  h.kept (S := fun k => k = g) ⟨rfl, rfl, rfl, by simp [World.setRow], fun k _ hs => setRow_other _ _ _ _ hs⟩ (fun k h1 _ h3 => by omega)

theorem put_fin (w w1 : World) (pg wd : Int) (nd : NodeD) (p : PairD) (A : Option Addr) (c : Nat) (hE : putE pg wd nd p = 0) (b : Bool) (hfb : findB nd.pairs p.k = b) (hb : Below w.heap.size w w1)
    (h : OwN w1 w.heap.size w1.heap.size A c none 0 none 0 (putN nd p)) :
    ∃ B0 d0, Ending.returned (.tuple #[.agg #[.slice A (putN nd p).pairs.length c, .slice none 0 0, .slice none 0 0], .bool b, .int .i64 0]) = .returned (.tuple #[vN B0 d0 none 0 none 0 (putR pg wd nd p), .bool (putB pg wd nd p), .int .i64 (putE pg wd nd p)]) ∧
      OwN w1 w.heap.size w1.heap.size B0 d0 none 0 none 0 (putR pg wd nd p) ∧ Below w.heap.size w w1 := by
  refine ⟨A, c, ?_, ?_, hb⟩
  · simp [putR, putB, hE, hfb]; simp [putN]
  · simpa only [putR, hE, if_true] using h

theorem put_ok (pg wd : Int) (A0 A1 A2 : Option Addr) (c0 c1 c2 : Nat) (nd : NodeD) (p : PairD) (w : World) (hN : RdN w A0 c0 A1 c1 A2 c2 nd) (hr : right pg wd = true) (hl : leafB pg wd nd = true) (hp : putP pg p = true)
    (hroom : (nd.pairs.length + 1) * 32 ≤ 140737488355328) (hpp : p.k.size ≤ 140737488355328 ∧ p.v.size ≤ 140737488355328) :
    Calls Try.prog 22 #[vF pg wd, vN A0 c0 A1 c1 A2 c2 nd, vP p] w fun e w' =>
      ∃ B0 d0, e = .returned (.tuple #[vN B0 d0 none 0 none 0 (putR pg wd nd p), .bool (putB pg wd nd p), .int .i64 (putE pg wd nd p)]) ∧
        OwN w' w.heap.size w'.heap.size B0 d0 none 0 none 0 (putR pg wd nd p) ∧ Below w.heap.size w w' := by
  have hE : putE pg wd nd p = 0 := by simp [putE, hr, hl, hp]
  have HE := Lib.hid hE
  have hrs := right_spec hr
  have HR := Lib.hid hr
  have HL := Lib.hid hl
  have HN := Lib.hid hN
  have HPP := Lib.hid hpp
  have h0 : 0 ≤ pg := by omega
  have h1 : pg ≤ 8192 := by omega
  have hps : (p.k.toList == []) = false ∧ ((pg / 16 < (p.k.size : Int)) ↔ False) ∧ ((pg / 8 < (p.v.size : Int)) ↔ False) := by
    simp only [putP, Bool.and_eq_true, Bool.not_eq_true', decide_eq_true_eq] at hp
    exact ⟨hp.1.1, iff_false_intro (by omega), iff_false_intro (by omega)⟩
  obtain ⟨k1, k2, k3⟩ := hps
  have hc0 := hN.hcp
  have hatm := at_many nd.pairs p.k
  have HAT := Lib.hid hatm
  clear hE hr hl hN hp hpp hatm
  cases hfb : findB nd.pairs p.k
  all_goals
    have HFB := Lib.hid hfb
    have HMA := Lib.hid (show ((manyB (findB nd.pairs p.k) : Nat) : Int) = _ from congrArg (fun b => ((manyB b : Nat) : Int)) hfb)
    clear hfb
    go_enter Try.func22, Try.ntmps22
    go_wp2_with (first
      | (go_at_call 61; refine (frame_v pg wd _ _ HR.out).mono ?_; rintro e w1 ⟨rfl, hb⟩; have hBB := put_first hb; clear hb; obtain ⟨⟨q0, q1⟩, ⟨q2, q3, q4⟩, q5, q6⟩ := put_boxes hBB; have q7 := put_lt hBB)
      | (go_at_call 62; refine (leaf_v pg wd A0 A1 A2 c0 c1 c2 nd _ (HN.out.put hBB) _ HL.out).mono ?_; rintro e w2 ⟨rfl, hb⟩; have hBB2 := put_next hBB hb; clear hb q0 q1 q2 q3 q4 q5 q6 q7 hBB; obtain ⟨⟨q0, q1⟩, ⟨q2, q3, q4⟩, q5, q6⟩ := put_boxes hBB2; have q7 := put_lt hBB2))
    have q8 : w.heap.size < w2.heap.size := by omega
    have q9 : w.heap.size + 1 < w2.heap.size := by omega
    have q10 : w.heap.size + 1 + 1 < w2.heap.size := by omega
    refine wp_region_grow (by kernel_rfl) (by kernel_rfl) ?_
    repeat (any_goals (first
      | go_big_quiet_step ((first | (go_at_call 63; exact quiet_below (maxKey_c pg wd _ h0 h1)) | (go_at_call 64; exact quiet_below (maxVal_c pg wd _ h0 h1))))
      | quiet_step ((first | (go_at_call 63; exact quiet_below (maxKey_c pg wd _ h0 h1)) | (go_at_call 64; exact quiet_below (maxVal_c pg wd _ h0 h1))))))
    refine wpQuiet_nil ?_
    intro w3 hb
    have hBB3 := put_next hBB2 hb
    clear hb q0 q1 q2 q3 q4 q5 q6 q7 q8 q9 q10 hBB2
    obtain ⟨⟨q0, q1⟩, ⟨q2, q3, q4⟩, q5, q6⟩ := put_boxes hBB3
    have q7 := put_lt hBB3
    have HG := Lib.hid (put_row hBB3)
    go_wp2_with (first
      | (go_at_call 42; refine (find_c A0 A1 A2 c0 c1 c2 nd p.k _ (HN.out.put hBB3)).mono ?_; rintro e w4 ⟨rfl, hb⟩; rw [HFB.out]; have hBB4 := put_next hBB3 hb; clear hb q0 q1 q2 q3 q4 q5 q6 q7 HG hBB3; obtain ⟨⟨q0, q1⟩, ⟨q2, q3, q4⟩, q5, q6⟩ := put_boxes hBB4; have q7 := put_lt hBB4))
    go_wp2_with (first
      | (go_at_call 65; refine (putP_pair A0 c0 nd p w4 (HN.out.put hBB4).pairs hc0 hroom _ HMA.out.symm).mono ?_; rintro e w5 ⟨⟨A, c, rfl, hown⟩, hb⟩; have hBB5 := put_next hBB4 hb; clear hb q0 q1 q2 q3 q4 q5 q6; have q7' := put_lt hBB4; clear hBB4 q7; have q7 := put_lt hBB5; have HG := Lib.hid (put_row hBB5); have HO := Lib.hid hown; clear hown)
      | (refine wpList_store_row rfl 29 (.tmp 6) (.tmp 59) rfl (w.heap.size + 1 + 1 + 1) #[.slice A (putN nd p).pairs.length c, .slice none 0 0, .slice none 0 0] rfl rfl 29 _ HG.out info29' rfl (sl3_one _ _ _ _ _ _ _ _ _) ?_))
    refine bodyPost_ret (results_ctt rfl _ _ (w.heap.size + 1 + 1 + 1) 29 #[.slice A (putN nd p).pairs.length c, .slice none 0 0, .slice none 0 0] (0, 0) _ rfl (setRow_block _ _ _ _ _ _ HG.out) Try.underlying29 rfl info29') rfl ?_
    exact put_fin w _ pg wd nd p A c HE.out _ HFB.out (below_setRow (put_below hBB5) (by omega) _) (((putN_own HO.out (Nat.le_refl _) hroom HN.out.pk HPP.out).setRow _ _ (by omega)).wide (by omega) (by simp [World.setRow]))

theorem put_c (pg wd : Int) (A0 A1 A2 : Option Addr) (c0 c1 c2 : Nat) (nd : NodeD) (p : PairD) (w : World) (hN : RdN w A0 c0 A1 c1 A2 c2 nd)
    (hroom : (nd.pairs.length + 1) * 32 ≤ 140737488355328) (hpp : p.k.size ≤ 140737488355328 ∧ p.v.size ≤ 140737488355328) :
    Calls Try.prog 22 #[vF pg wd, vN A0 c0 A1 c1 A2 c2 nd, vP p] w fun e w' =>
      ∃ B0 d0, e = .returned (.tuple #[vN B0 d0 none 0 none 0 (putR pg wd nd p), .bool (putB pg wd nd p), .int .i64 (putE pg wd nd p)]) ∧
        OwN w' w.heap.size w'.heap.size B0 d0 none 0 none 0 (putR pg wd nd p) ∧ Below w.heap.size w w' := by
  cases hr : right pg wd with
  | false => exact put_wrong pg wd A0 A1 A2 c0 c1 c2 nd p w hr
  | true =>
    cases hl : leafB pg wd nd with
    | false => exact put_unshaped pg wd A0 A1 A2 c0 c1 c2 nd p w hN hr hl
    | true =>
      cases hp : putP pg p with
      | false => exact put_arg pg wd A0 A1 A2 c0 c1 c2 nd p w hN hr hl hp
      | true => exact put_ok pg wd A0 A1 A2 c0 c1 c2 nd p w hN hr hl hp hroom hpp

end Go.Proofs.Ytajkoeodabmgeaa
end

section
namespace Go.Proofs.Ytajkoeodabmgeaa
open Go.RowKit

section
variable {P : Program} {ops : Array Oper} {Q : Exit → Act → World → Prop} {S : World → Prop}

/-- One order of a region's operations: the number; is it taken first? -/
def schedOk (ops : Array Oper) : List (Nat × Bool) → Array Bool → Bool
  | [], l => (Region.ready .any ops l).isEmpty
  | (i, true) :: r, l => Region.free .any ops l i && (Region.ready .any ops l).contains i && schedOk ops r (l.setIfInBounds i true)
  | (i, false) :: r, l => (Region.ready .any ops l == [i]) && schedOk ops r (l.setIfInBounds i true)

/-- The region in that order. -/
def wpSched (P : Program) (ops : Array Oper) (Q : Exit → Act → World → Prop) (S : World → Prop) : List (Nat × Bool) → Act → World → Prop
  | [], a, w => Q .normal a w
  | (i, true) :: r, a, w => ∃ o v, ops[i]? = some o ∧ YieldsIf P ops S o v a ∧ wpSched P ops Q S r (a.put o.dst v) w
  | (i, false) :: r, a, w => wpOp P ops Q i (fun a' w' => S w' ∧ wpSched P ops Q S r a' w') a w

theorem wpAnyH_of_sched (hs : Region.noSelect ops = true) (hQ : ∀ c (a : Act) d v w, Q (.panic c) (a.put d v) w → Q (.panic c) a w) : ∀ (l : List (Nat × Bool)) (listed : Array Bool) (a : Act) (w : World),
    schedOk ops l listed = true → S w → wpSched P ops Q S l a w → wpAnyH P .any ops Q S l.length listed a w
  | [], listed, a, w, h, _, hw => ⟨by simpa [schedOk] using h, hw⟩
  | (i, true) :: r, listed, a, w, h, hS, hw => by
    obtain ⟨o, v, hi, hy, hw⟩ := hw
    simp only [schedOk, Bool.and_eq_true] at h
    exact wpAnyH_take hi hs h.1.1 h.1.2 (fun c a w => hQ c a _ _ w) hy hS (wpAnyH_of_sched hs hQ r _ _ w h.2 hS hw)
  | (i, false) :: r, listed, a, w, h, hS, hw => by
    simp only [schedOk, Bool.and_eq_true, beq_iff_eq] at h
    refine wpAnyH_all h.1 (by simp) (fun j hj => ?_)
    obtain rfl : j = i := by simpa using hj
    exact wpOp_mono (fun a' w' h' => ⟨h'.1, wpAnyH_of_sched hs hQ r _ a' w' h.2 h'.1 h'.2⟩) hw

theorem wp_region_sched {id : Nat} {a : Act} {w : World} (sched : List (Nat × Bool)) (hm : P.follows .mixedOrders = true) (hl : (sched.length == ops.size) = true)
    (hok : (schedOk ops sched (Array.replicate ops.size false) && Region.noSelect ops) = true) (hQ : ∀ c (a : Act) d v w, Q (.panic c) (a.put d v) w → Q (.panic c) a w) (hS : S w.drew) (h : wpSched P ops Q S sched a w.drew) :
    (Code.region id ops true).wp P Q a w := by
  simp only [Bool.and_eq_true] at hok
  refine wp_region_held_drew (S := S) hm hS fun hS => ?_
  have := wpAnyH_of_sched hok.2 hQ sched _ a _ hok.1 hS h
  rwa [beq_iff_eq.1 hl] at this

theorem at_drop {i : Nat} {o : Oper} {t : List Oper} (h : ops.toList.drop i = o :: t) : ops[i]? = some o := by
  have := congrArg List.head? h
  simpa [List.head?_drop] using this

theorem sched_take {i : Nat} {o : Oper} {v : Value} {r : List (Nat × Bool)} {a : Act} {w : World} {t : List Oper} (ho : ops.toList.drop i = o :: t) (hw : Region.wanted o (yielded ops a.tmps) = true)
    (h1 : ∀ w, S w → (execOp a.eval o).run P w = .ok (.value v) w) (h : wpSched P ops Q S r (a.put o.dst v) w) : wpSched P ops Q S ((i, true) :: r) a w :=
  ⟨o, v, at_drop ho, .inl ⟨hw, h1⟩, h⟩
theorem sched_done {a : Act} {w : World} (h : Q .normal a w) : wpSched P ops Q S [] a w := h
theorem sched_pass {i : Nat} {o : Oper} {r : List (Nat × Bool)} {a : Act} {w : World} {t : List Oper} (ho : ops.toList.drop i = o :: t) (hw : Region.wanted o (yielded ops a.tmps) = false)
    (h : wpSched P ops Q S r (a.put o.dst undef) w) : wpSched P ops Q S ((i, true) :: r) a w :=
  ⟨o, undef, at_drop ho, .inr ⟨hw, rfl⟩, h⟩
theorem sched_run {i : Nat} {o : Oper} {r : List (Nat × Bool)} {a : Act} {w : World} {t : List Oper} (ho : ops.toList.drop i = o :: t) (hw : Region.wanted o (yielded ops a.tmps) = true)
    (h : ∀ K' : Act → World → Prop, Shut (∀ a w, S w → (S w → wpSched P ops Q S r a w) → K' a w) → Oper.wp P o a w K' Q) : wpSched P ops Q S ((i, false) :: r) a w := by
  refine wpOp_step (at_drop ho) (fun K' hK => ?_)
  rw [if_pos hw]
  exact h K' (fun a w hS hW => hK a w ⟨hS, hW hS⟩)
end

/-- A block of so many cells, none of them frozen. -/
def RowAt (w : World) (g n : Nat) (t : TypeId) : Prop := ∃ cs, w.heap[g]? = some (.cells cs t (0, 0)) ∧ cs.size = n

theorem RowAt.setRow {w : World} {g n : Nat} {t : TypeId} (h : RowAt w g n t) (cs : Array Value) (hn : cs.size = n) : RowAt (w.setRow g cs) g n t ∧ (w.setRow g cs).heap[g]? = some (.cells cs t (0, 0)) := by
  obtain ⟨old, h, _⟩ := h
  exact ⟨⟨cs, setRow_block _ _ _ _ _ _ h, hn⟩, setRow_block _ _ _ _ _ _ h⟩
theorem RowAt.below {w w' : World} {g n : Nat} {t : TypeId} (h : RowAt w g n t) (hb : Below w.heap.size w w') : RowAt w' g n t := by
  obtain ⟨cs, h, hn⟩ := h
  exact ⟨cs, (hb.block g (Array.getElem?_eq_some_iff.1 h).1).trans h, hn⟩
theorem RowAt.lt {w : World} {g n : Nat} {t : TypeId} (h : RowAt w g n t) : g < w.heap.size := by
  obtain ⟨cs, h, _⟩ := h
  exact (Array.getElem?_eq_some_iff.1 h).1

/-- What a region with one result box keeps: all below the box; the box is a block of so many cells. -/
def Box (g n : Nat) (t : TypeId) (w0 w : World) : Prop := Below g w0 w ∧ RowAt w g n t
theorem Box.drew {g n : Nat} {t : TypeId} {w0 w : World} (h : Box g n t w0 w) : Box g n t w0 w.drew := ⟨h.1.drew, h.2⟩
theorem Box.step {g n : Nat} {t : TypeId} {w0 w w' : World} (h : Box g n t w0 w) (hb : Below w.heap.size w w') : Box g n t w0 w' :=
  ⟨h.1.trans (hb.mono (Nat.le_of_lt h.2.lt)), h.2.below hb⟩
theorem Box.setRow {g n : Nat} {t : TypeId} {w0 w : World} (h : Box g n t w0 w) (cs : Array Value) (hn : cs.size = n) : Box g n t w0 (w.setRow g cs) :=
  ⟨below_setRow h.1 (Nat.le_refl _) _, (h.2.setRow cs hn).1⟩

/-- The result's store, in such a region. -/
theorem wp_store_box {P : Program} {o : Oper} {a : Act} {w w0 : World} {K : Act → World → Prop} {Q : Exit → Act → World → Prop} {g n : Nat} {t : TypeId} (h0 : Box g n t w0 w) (ty : TypeId) (x y : Operand) (ho : o.op = .store ty x y)
    (cells : Array Value) (hx : a.eval x = .pointer (some ⟨g, 0, none⟩)) (hy : a.eval y = .agg cells) (hi : (P.info? ty).map (·.size) = some n)
    (hn : cells.size = n) (h1 : cells.all (·.oneCell') = true)
    (h : K (a.put o.dst undef) (w.setRow g cells)) : o.wp P a w K Q := by
  obtain ⟨old, hg, hsz⟩ := h0.2
  exact wp_store_row ty x y ho g cells hx hy t old hg (by rw [hi, hn]) (hsz.trans hn.symm) h1 h

end Go.Proofs.Ytajkoeodabmgeaa
end

section
namespace Go.Proofs.Ytajkoeodabmgeaa
open Go.RowKit
set_option maxHeartbeats 2000000
set_option maxRecDepth 100000

abbrev cW (w : World) (a b c : Value) : World := (w.alloc (.cells #[a, b, c] 29)).alloc (.cells #[.slice none 0 0, .slice none 0 0, .slice none 0 0] 29)
theorem cW_start {w : World} {a b c : Value} : Box (w.heap.size + 1) 3 29 (cW w a b c) (cW w a b c) := ⟨Below.refl _ _, _, alloc2_at w _ _, rfl⟩
theorem cW_cells {w w1 : World} {a b c : Value} (h : Box (w.heap.size + 1) 3 29 (cW w a b c) w1) : w1.cell? ⟨w.heap.size, 0, none⟩ = some a ∧ w1.cell? ⟨w.heap.size, 1, none⟩ = some b ∧ w1.cell? ⟨w.heap.size, 2, none⟩ = some c := by
  have h0 : w1.heap[w.heap.size]? = some (.cells #[a, b, c] 29 (0, 0)) := (h.1.block _ (by omega)).trans ((Below.heap_alloc _ _ _ (by simp)).trans (heap_alloc_new w _))
  exact ⟨cell_of_row _ _ 0 _ _ _ h0, cell_of_row _ _ 1 _ _ _ h0, cell_of_row _ _ 2 _ _ _ h0⟩
theorem cW_below {w w1 : World} {a b c : Value} {g n : Nat} {t : TypeId} (hg : g = w.heap.size + 1) (h : Box g n t (cW w a b c) w1) : Below w.heap.size w w1 :=
  (((Below.refl _ _).alloc (Nat.le_refl _) _).alloc (by simp) _).trans (h.1.mono (by omega))

/-- `append(nil, l...)`, at one operation of a region. -/
theorem wp_copy {o : Oper} {a : Act} {w : World} {K : Act → World → Prop} {Q : Exit → Act → World → Prop} (s x : Operand) (t : TypeId)
    (ho : o.op = .call { callee := .builtin .append, args := #[s, x], argTypes := #[t, t] })
    (e : TypeId) {z : Value} {size bytes : Nat} (ht : Try.prog.underlying t = some (.slice e)) (hi : (Try.prog.info? e).map (fun i => (i.zero, i.size, i.bytes)) = some (some z, size, bytes)) (hzs : z.cells.size = size) (hsz : 0 < size)
    (hs : a.eval s = .slice none 0 0) {A : Option Addr} {m c : Nat} {news : List Value} (hx : a.eval x = .slice A m c) (hr : Rd w size A m news) (h1 : ∀ u ∈ news, u.oneCell' = true)
    (hbytes : m * bytes ≤ 140737488355328) (hb1 : 0 < bytes)
    (h : ∀ B d w', w'.ownsRow w.heap.size e size (.slice B m d) m news → Below w.heap.size w w' → K (a.put o.dst (.slice B m d)) w') : o.wp Try.prog a w K Q := by
  obtain ⟨i0, hi, hz0, hz1, hz2⟩ := info_parts hi
  refine wp_append_rd s x t ho w.heap.size e ht hi hz0 hz1 hz2 hzs hsz hs (World.ownsRow_nil _ _ _ _) hx hr h1 (by rw [Nat.zero_add]; exact hbytes) hb1 (Nat.le_refl _) ?_
  intro v' w' hown hg _
  rw [Nat.zero_add, List.nil_append] at hown
  obtain ⟨B, d, rfl, _, _⟩ := own_rd hown
  exact h B d w' hown ((Below.refl _ _).grown hg (Nat.le_refl _) (fun k e => by simp [Value.ownBlock] at e))

theorem sl3' (A0 A1 A2 : Option Addr) (n0 c0 n1 c1 n2 c2 : Nat) : (#[.slice A0 n0 c0, .slice A1 n1 c1, .slice A2 n2 c2] : Array Value).all (·.oneCell') = true := sl3_one _ _ _ _ _ _ _ _ _

theorem copy_c (A0 A1 A2 : Option Addr) (c0 c1 c2 : Nat) (nd : NodeD) (w : World) (hN : RdN w A0 c0 A1 c1 A2 c2 nd) :
    Calls Try.prog 60 #[vN A0 c0 A1 c1 A2 c2 nd] w fun e w' =>
      ∃ B0 d0 B1 d1 B2 d2, e = .returned (vN B0 d0 B1 d1 B2 d2 nd) ∧ OwN w' w.heap.size w'.heap.size B0 d0 B1 d1 B2 d2 nd ∧ Below w.heap.size w w' := by
  have HN := Lib.hid hN
  have hp := hN.hp
  have hs := hN.hs
  have hk := hN.hk
  clear hN
  go_enter Try.func60, Try.ntmps60
  go_wp2
  have hS1 := @cW_start w (.slice A0 nd.pairs.length c0) (.slice A1 nd.seps.length c1) (.slice A2 nd.kids.length c2)
  have HF := Lib.hid (fun W (h : Box (w.heap.size + 1) 3 29 (cW w (.slice A0 nd.pairs.length c0) (.slice A1 nd.seps.length c1) (.slice A2 nd.kids.length c2)) W) => cW_cells h)
  refine wp_region_sched (S := Box (w.heap.size + 1) 3 29 (cW w (.slice A0 nd.pairs.length c0) (.slice A1 nd.seps.length c1) (.slice A2 nd.kids.length c2)))
    [(0, true), (1, true), (2, true), (4, true), (5, true), (6, true), (8, true), (9, true), (10, true), (3, false), (7, false), (11, false), (12, true), (13, false)]
    (by kernel_rfl) (by kernel_rfl) (by kernel_rfl) (fun _ _ d _ _ h => by cases d <;> exact h) hS1.drew ?_
  repeat (apply sched_take; (exact rfl); rfl; (intro W hW; obtain ⟨q0, q1, q2⟩ := HF.out W hW; go_simp; (try with_reducible rfl)); simp only [Act.put, List.setIfInBounds_toArray, List.set_cons_zero, List.set_cons_succ])
  apply sched_run; (exact rfl); rfl; intro K hK
  refine wp_copy (.tmp 6) (.tmp 8) 25 rfl 31 Try.underlying25 info31 rfl (by decide) rfl rfl (HN.out.pairs.below (cW_below rfl hS1.drew)) (pc1 _) hp (by decide) ?_
  intro B0 d0 w1 hown1 hb1
  have hS2 := hS1.drew.step hb1
  have HO1 := Lib.hid hown1
  clear hown1
  refine hK.out _ _ hS2 (fun _ => ?_)
  clear hK K
  try simp only [Act.put, List.setIfInBounds_toArray, List.set_cons_zero, List.set_cons_succ]
  apply sched_run; (exact rfl); rfl; intro K hK
  refine wp_copy (.tmp 10) (.tmp 12) 26 rfl 9 Try.underlying26 info9 rfl (by decide) rfl rfl (HN.out.seps.below (cW_below rfl hS2)) (sc1 _) hs (by decide) ?_
  intro B1 d1 w2 hown2 hb2
  have hS3 := hS2.step hb2
  have HO2 := Lib.hid hown2
  clear hown2
  refine hK.out _ _ hS3 (fun _ => ?_)
  clear hK K
  try simp only [Act.put, List.setIfInBounds_toArray, List.set_cons_zero, List.set_cons_succ]
  apply sched_run; (exact rfl); rfl; intro K hK
  refine wp_copy (.tmp 14) (.tmp 16) 27 rfl 85 Try.underlying27 info85' (by kernel_rfl) (by decide) rfl rfl (HN.out.kids.below (cW_below rfl hS3)) (kc1 _) hk (by decide) ?_
  intro B2 d2 w3 hown3 hb3
  have hS4 := hS3.step hb3
  have HO3 := Lib.hid hown3
  clear hown3
  refine hK.out _ _ hS4 (fun _ => ?_)
  clear hK K
  try simp only [Act.put, List.setIfInBounds_toArray, List.set_cons_zero, List.set_cons_succ]
  repeat (apply sched_take; (exact rfl); rfl; (intro W hW; obtain ⟨q0, q1, q2⟩ := HF.out W hW; go_simp; (try with_reducible rfl)); simp only [Act.put, List.setIfInBounds_toArray, List.set_cons_zero, List.set_cons_succ])
  apply sched_run; (exact rfl); rfl; intro K hK
  refine wp_store_box hS4 29 (.tmp 2) (.tmp 18) rfl _ rfl rfl info29' rfl ?_ ?_
  · exact sl3_one _ _ _ _ _ _ _ _ _
  refine hK.out _ _ (hS4.setRow _ rfl) (fun _ => ?_)
  clear hK K
  refine sched_done ?_
  go_wp2
  refine bodyPost_ret (results_cell_row rfl _ _ (w.heap.size + 1) 29 _ (0, 0) _ rfl (hS4.2.setRow _ rfl).2 Try.underlying29 rfl info29') rfl ?_
  have hz : w.heap.size + 1 + 1 = (cW w (.slice A0 nd.pairs.length c0) (.slice A1 nd.seps.length c1) (.slice A2 nd.kids.length c2)).drew.heap.size := by simp [cW]
  have hN := HN.out
  have h0 : OwN w3 (w.heap.size + 1 + 1) w3.heap.size B0 d0 B1 d1 B2 d2 nd :=
    { pairs := ownsRow_mono' (own_below (own_below HO1.out hb2) hb3) (Nat.le_of_eq hz)
      seps := ownsRow_mono' (own_below HO2.out hb3) hS2.2.lt
      kids := ownsRow_mono' HO3.out (Nat.lt_of_lt_of_le hS2.2.lt hb2.size)
      u0 := fun k hk => own_lt (own_below (own_below HO1.out hb2) hb3) k hk
      u1 := fun k hk => own_lt (own_below HO2.out hb3) k hk
      u2 := fun k hk => own_lt HO3.out k hk
      hp := hp
      hs := hs
      hk := hk
      pk := hN.pk
      sk := hN.sk
      kk := hN.kk }
  exact ⟨B0, d0, B1, d1, B2, d2, rfl, (h0.setRow _ _ (by omega)).wide (by omega) (by simp [World.setRow]), cW_below rfl (hS4.setRow _ rfl)⟩

end Go.Proofs.Ytajkoeodabmgeaa
end
