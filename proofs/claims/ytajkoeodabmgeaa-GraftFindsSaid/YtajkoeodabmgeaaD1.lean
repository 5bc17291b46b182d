import Derived.Test.YtajkoeodabmgeaaC6
import Derived.Test.YtajkoeodabmgeaaP1
namespace Go.Proofs.Ytajkoeodabmgeaa
open Go.RowKit
set_option maxHeartbeats 2000000
set_option maxRecDepth 100000
attribute [local go_sem] grow_cell grow_frozen grow_size

theorem toList_data (s : ByteArray) : s.toList = s.data.toList := ByteArray.toList_eq s

/-- The separator, or nothing and the error. -/
def sepS (l r : ByteArray) : ByteArray := if bl l r = true then r.extract 0 (lcp l.data.toList r.data.toList + 1) else ⟨#[]⟩
def sepE (l r : ByteArray) : Int := if bl l r = true then 0 else 81

theorem between_err (l r : ByteArray) (w : World) (h : bl l r = false) :
    Calls Try.prog 27 #[.string l, .string r] w fun e w' => e = .returned (.tuple #[.string ⟨#[]⟩, .int .i64 81]) ∧ Below w.heap.size w w' := by
  go_enter Try.func27, Try.ntmps27
  go_wp2
  go_ret2
  exact ⟨rfl, Below.refl _ _⟩

theorem between_ok (l r : ByteArray) (w : World) (hl : l.size ≤ 140737488355328) (hr : r.size ≤ 140737488355328) (h : bl l r = true) :
    Calls Try.prog 27 #[.string l, .string r] w fun e w' => e = .returned (.tuple #[.string (r.extract 0 (lcp l.data.toList r.data.toList + 1)), .int .i64 0]) ∧ Below w.heap.size w w' := by
  have hlt : lt l.data.toList r.data.toList = true := by rw [← toList_data, ← toList_data]; exact h
  have hll : l.data.toList.length = l.size := by simp
  have hrl : r.data.toList.length = r.size := by simp
  have hrr := lcp_lt_right hlt
  have hlb := lcp_le_left l.data.toList r.data.toList
  rw [hrl] at hrr
  rw [hll] at hlb
  have hstep : ∀ k (a : k < l.size) (b : k < r.size), k ≤ lcp l.data.toList r.data.toList → ((l[k] = r[k] → k + 1 ≤ lcp l.data.toList r.data.toList) ∧ (l[k] ≠ r[k] → k = lcp l.data.toList r.data.toList)) := by
    intro k a b hk
    exact lcp_step l.data.toList r.data.toList k (by simpa using a) (by simpa using b) hk
  generalize hC : lcp l.data.toList r.data.toList = C at *
  have HST := Lib.hid hstep
  clear hstep hC hlt hll hrl
  go_enter Try.func27, Try.ntmps27
  go_wp2
  go_loopw [6] (fun i wr => ∃ k : Nat, k ≤ C ∧ i = .int .i64 k ∧ Below w.heap.size w wr) (fun i _ => l.size - (intOf i).toNat)
  case atStart => exact ⟨0, Nat.zero_le _, rfl, Below.refl _ _⟩
  case round =>
    obtain ⟨k, hk, rfl, hB⟩ := hrel
    have hrk : k < r.size := by omega
    go_wp2
    by_cases hlt : k < l.size
    · have hd : decide ((k : Int) < l.size) = true := decide_eq_true (by omega)
      have hs := HST.out k hlt hrk hk
      by_cases he : l[k] = r[k]
      · have h1 := hs.1 he
        have hb : ((l[k].toNat : Int) == (r[k].toNat : Int)) = true := by rw [he]; simp
        have HE := Lib.hid he
        clear he hs
        refine wp_region_grow (by kernel_rfl) (by kernel_rfl) ?_
        repeat (any_goals (first | go_big_quiet_step (fail) | quiet_step (fail)))
        refine wpQuiet_nil ?_
        intro w1 hb
        go_wp2
        go_roundw
        case rel => exact ⟨k + 1, by omega, by go_num, below_s0 hB hB.size hb⟩
        case measure => simp [intOf]; omega
      · have h1 := hs.2 he
        have hb : ((l[k].toNat : Int) == (r[k].toNat : Int)) = false := by
          rw [beq_eq_false_iff_ne]; intro e; exact he (UInt8.toNat_inj.1 (by omega))
        have HE := Lib.hid he
        have H1 := Lib.hid h1
        clear he hs h1
        refine wp_region_grow (by kernel_rfl) (by kernel_rfl) ?_
        repeat (any_goals (first | go_big_quiet_step (fail) | quiet_step (fail)))
        refine wpQuiet_nil ?_
        intro w1 hb
        go_wp2
        go_ret2
        obtain rfl := H1.out
        exact ⟨rfl, below_s0 hB hB.size hb⟩
    · have hd : decide ((k : Int) < l.size) = false := decide_eq_false (by omega)
      refine wp_region_grow (by kernel_rfl) (by kernel_rfl) ?_
      repeat (any_goals (first | go_big_quiet_step (fail) | quiet_step (fail)))
      refine wpQuiet_nil ?_
      intro w1 hb
      go_wp2
      go_ret2
      obtain rfl : k = C := by omega
      exact ⟨rfl, below_s0 hB hB.size hb⟩

theorem between_c (l r : ByteArray) (w : World) (hl : l.size ≤ 140737488355328) (hr : r.size ≤ 140737488355328) :
    Calls Try.prog 27 #[.string l, .string r] w fun e w' => e = .returned (.tuple #[.string (sepS l r), .int .i64 (sepE l r)]) ∧ Below w.heap.size w w' := by
  cases h : bl l r with
  | true => have := between_ok l r w hl hr h; rwa [show sepS l r = _ from if_pos h, show sepE l r = _ from if_pos h]
  | false => have := between_err l r w h; rwa [show sepS l r = _ from if_neg (by rw [h]; simp), show sepE l r = _ from if_neg (by rw [h]; simp)]

theorem extract_take (r : ByteArray) (k : Nat) : (r.extract 0 k).toList = r.data.toList.take k := by
  rw [toList_data, ByteArray.data_extract]
  simp

/-- `>` as the walk writes it. -/
theorem gt_walk (r l : ByteArray) (k : Nat) : (!Op.bytesLess (r.extract 0 k).toList l.toList && !((r.extract 0 k).toList == l.toList)) = lt l.data.toList (r.data.toList.take k) := by
  rw [extract_take, toList_data l]
  generalize r.data.toList.take k = a
  generalize l.data.toList = b
  rw [Bool.eq_iff_iff]
  simp only [Bool.and_eq_true, Bool.not_eq_true', beq_eq_false_iff_ne]
  constructor
  · rintro ⟨h1, h2⟩
    rcases lt_total b a with h | h | h
    · exact h
    · exact absurd h.symm h2
    · exact absurd (show Op.bytesLess a b = true from h) (by rw [h1]; simp)
  · intro h
    refine ⟨lt_asymm h, ?_⟩
    rintro rfl
    rw [lt_irrefl] at h; cases h

theorem refBetween_c (l r : ByteArray) (w : World) (hl : l.size ≤ 140737488355328) (hr : r.size ≤ 140737488355328) :
    Calls Try.prog 28 #[.string l, .string r] w fun e w' => e = .returned (.tuple #[.string (sepS l r), .int .i64 (sepE l r)]) ∧ Below w.heap.size w w' := by
  have hll : l.data.toList.length = l.size := by simp
  have hrl : r.data.toList.length = r.size := by simp
  have hbl : bl l r = lt l.data.toList r.data.toList := by rw [← toList_data, ← toList_data]
  -- the number of rounds, and what each of them meets
  obtain ⟨N, hN, hrounds, hend⟩ : ∃ N : Nat, N ≤ r.size + 1 ∧ (∀ k, k < N → lt l.data.toList (r.data.toList.take k) = false) ∧
      ((N ≤ r.size ∧ lt l.data.toList (r.data.toList.take N) = true ∧ sepS l r = r.extract 0 N ∧ sepE l r = 0) ∨ (N = r.size + 1 ∧ sepS l r = ⟨#[]⟩ ∧ sepE l r = 81)) := by
    cases h : bl l r with
    | true =>
      have h' : lt l.data.toList r.data.toList = true := by rw [← hbl]; exact h
      have := lcp_lt_right h'
      exact ⟨lcp l.data.toList r.data.toList + 1, by omega, fun k hk => take_lcp _ _ k (by omega), .inl ⟨by omega, take_lcp_succ h', by rw [sepS, if_pos h], by rw [sepE, if_pos h]⟩⟩
    | false =>
      have h' : lt l.data.toList r.data.toList = false := by rw [← hbl]; exact h
      exact ⟨r.size + 1, by omega, fun k _ => take_not_lt h' k, .inr ⟨rfl, by rw [sepS, if_neg (by rw [h]; simp)], by rw [sepE, if_neg (by rw [h]; simp)]⟩⟩
  have HR := Lib.hid hrounds
  have HE := Lib.hid hend
  clear hrounds hend hll hrl hbl
  go_enter Try.func28, Try.ntmps28
  go_wp2
  go_loopw [6] (fun i wr => ∃ k : Nat, k ≤ N ∧ i = .int .i64 k ∧ Below w.heap.size w wr) (fun i _ => N - (intOf i).toNat)
  case atStart => exact ⟨0, Nat.zero_le _, rfl, Below.refl _ _⟩
  case round =>
    obtain ⟨k, hk, rfl, hB⟩ := hrel
    by_cases hkN : k < N
    · have hks : k ≤ r.size := by omega
      have hg := (gt_walk r l k).trans (HR.out k hkN)
      go_wp2
      go_roundw
      case rel => exact ⟨k + 1, by omega, by go_num, hB⟩
      case measure => simp [intOf]; omega
    · obtain rfl : k = N := by omega
      rcases HE.out with ⟨h1, h2, h3, h4⟩ | ⟨h1, h2, h3⟩
      · have hg := (gt_walk r l k).trans h2
        have H3 := Lib.hid h3
        have H4 := Lib.hid h4
        clear h2 h3 h4
        go_wp2
        go_ret2
        exact ⟨by rw [H3.out, H4.out]; rfl, hB⟩
      · have hlt : r.size < k := by omega
        have H1 := Lib.hid h1
        have H3 := Lib.hid h2
        have H4 := Lib.hid h3
        clear h1 h2 h3
        go_wp2
        go_ret2
        exact ⟨by rw [H3.out, H4.out]; rfl, hB⟩

end Go.Proofs.Ytajkoeodabmgeaa
