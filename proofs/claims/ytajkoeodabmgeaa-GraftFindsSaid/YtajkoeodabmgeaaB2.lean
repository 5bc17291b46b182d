import Derived.Test.YtajkoeodabmgeaaB0g
import Derived.Test.YtajkoeodabmgeaaB1
namespace Go.Proofs.Ytajkoeodabmgeaa
open Go.RowKit
set_option maxHeartbeats 400000
set_option maxRecDepth 100000
attribute [local go_sem] grow_cell grow_frozen grow_size

theorem check1_c (k v : ByteArray) (pg wd : Int) (g : Nat) (w : World) (h0 : 0 ≤ pg) (h1 : pg ≤ 8192) (_hv : v.size ≤ 140737488355328)
    (hc0 : w.cell? ⟨g, 0, none⟩ = some (.int .i64 pg)) (hc1 : w.cell? ⟨g, 1, none⟩ = some (.int .i64 wd)) :
    Calls Try.prog 94 #[.agg #[.string k, .string v], .pointer (some ⟨g, 0, none⟩)] w fun e w' => e = .returned (.bool (decide (pg / 8 < v.size))) ∧ Below w.heap.size w w' := by
  have hg : g < w.heap.size := World.block_lt_of_cell? w _ hc0
  have hg1 : g < w.heap.size + 1 := by omega
  go_enter Try.func94, Try.ntmps94
  go_wp2
  refine wp_region_grow (by kernel_rfl) (by kernel_rfl) ?_
  repeat (any_goals (first | go_big_quiet_step ((go_at_call 64; exact quiet_below (maxVal_c pg wd _ h0 h1))) | quiet_step ((go_at_call 64; exact quiet_below (maxVal_c pg wd _ h0 h1)))))
  refine wpQuiet_nil ?_
  intro w1 hb
  go_wp2
  go_ret
  exact ⟨rfl, below_a hb⟩

theorem check2_c (k v : ByteArray) (w : World) :
    Calls Try.prog 96 #[.agg #[.string k, .string v]] w fun e w' => e = .returned (.string k) ∧ Below w.heap.size w w' := by
  go_enter Try.func96, Try.ntmps96
  go_wp2
  go_ret
  exact ⟨rfl, (Below.refl _ _).alloc (Nat.le_refl _) _⟩

theorem check4_c (k : ByteArray) (w : World) :
    Calls Try.prog 102 #[.string k] w fun e w' => e = .returned (.string k) ∧ Below w.heap.size w w' := by
  go_enter Try.func102, Try.ntmps102
  go_wp2
  go_ret
  exact ⟨rfl, Below.refl _ _⟩

theorem contains_c (A : Option Addr) (c : Nat) (l : List Int) (x : Int) (w : World) (hR : Rd w 1 A l.length (l.map (.int .i64))) (hl : l.length ≤ 65536) :
    Calls Try.prog 83 #[.slice A l.length c, .int .i64 x] w fun e w' => e = .returned (.bool (decide (x ∈ l))) ∧ w = w' := by
  go_enter Try.func83, Try.ntmps83
  go_wp2_with (go_at_call 105; refine (index_c A c l x w hR hl).mono ?_; rintro e w' ⟨⟨r, rfl, hr⟩, rfl⟩; have HR := Lib.hid hr; clear hr)
  go_ret
  exact ⟨ret_eq (show Value.bool (decide (0 ≤ r)) = _ by simp [HR.out]), rfl⟩

theorem right_c (pg wd : Int) (w : World) :
    Calls Try.prog 41 #[vF pg wd] w fun e w' => e = .returned (.bool (right pg wd)) ∧ Below w.heap.size w w' := by
  have hR : ∀ (W : World) (g : Nat) (_ : g = W.heap.size), Rd (W.alloc (.cells #[.int .i64 1024, .int .i64 2048, .int .i64 4096, .int .i64 8192] 3)) 1 (some ⟨g, 0, none⟩) [(1024 : Int), 2048, 4096, 8192].length ([(1024 : Int), 2048, 4096, 8192].map (.int .i64)) := by
    rintro W g rfl
    refine ⟨rfl, fun _ => ⟨_, _, rfl, fun j u hu => ?_⟩⟩
    rw [Nat.zero_add, cell_of_row _ W.heap.size j _ _ _ (heap_alloc_new W _)]
    simpa using hu
  by_cases hm : pg ∈ [(1024 : Int), 2048, 4096, 8192]
  · have hm1 : decide (pg ∈ [(1024 : Int), 2048, 4096, 8192]) = true := decide_eq_true hm
    have h3 : (1 ≤ wd ∧ wd ≤ 32) ∨ (1 ≤ wd ∧ ¬ wd ≤ 32) ∨ (¬ 1 ≤ wd) := by omega
    rcases h3 with ⟨h1, h2⟩ | ⟨h1, h2⟩ | h1
    all_goals
      have HM := Lib.hid hm
      have HM1 := Lib.hid hm1
      clear hm hm1
      go_enter Try.func41, Try.ntmps41
      go_wp2_with (go_at_call 83; refine (contains_c _ _ [1024, 2048, 4096, 8192] pg _ (hR _ _ (by simp)) (by decide)).mono ?_; rw [HM1.out]; rintro e w' ⟨rfl, rfl⟩)
      go_ret
      exact ⟨ret_eq (by have := HM.out; simp only [List.mem_cons, List.not_mem_nil, or_false] at this; simp [right, this]; omega), ((Below.refl _ _).alloc (Nat.le_refl _) _).alloc (by simp) _⟩
  · have hm1 : decide (pg ∈ [(1024 : Int), 2048, 4096, 8192]) = false := decide_eq_false hm
    have HM := Lib.hid hm
    have HM1 := Lib.hid hm1
    clear hm hm1
    go_enter Try.func41, Try.ntmps41
    go_wp2_with (go_at_call 83; refine (contains_c _ _ [1024, 2048, 4096, 8192] pg _ (hR _ _ (by simp)) (by decide)).mono ?_; rw [HM1.out]; rintro e w' ⟨rfl, rfl⟩)
    go_ret
    exact ⟨ret_eq (by have := HM.out; simp only [List.mem_cons, List.not_mem_nil, or_false] at this; simp [right, this]), ((Below.refl _ _).alloc (Nat.le_refl _) _).alloc (by simp) _⟩

theorem frame_c (pg wd : Int) (w : World) :
    Calls Try.prog 61 #[vF pg wd] w fun e w' => e = .returned (.bool (right pg wd)) ∧ Below w.heap.size w w' := by
  go_enter Try.func61, Try.ntmps61
  go_wp2_with (go_at_call 41; refine (right_c pg wd _).mono ?_; rintro e w1 ⟨rfl, hb⟩)
  go_ret
  exact ⟨rfl, below_a hb⟩

/-- How many bytes a free number has. -/
def cnt (n : Nat) : Nat := if n < 128 then 1 else cnt (n / 128) + 1
termination_by n
decreasing_by omega

theorem cnt_pos (n : Nat) : 1 ≤ cnt n := by unfold cnt; split <;> omega
theorem cnt_le (n : Nat) : cnt n ≤ n + 1 := by
  induction n using Nat.strongRecOn with
  | ind n ih =>
    unfold cnt
    split
    · omega
    · have := ih (n / 128) (by omega); omega

theorem count_c (n : Nat) (w : World) (hn : n ≤ 140737488355328) :
    Calls Try.prog 103 #[.int .i64 n] w fun e w' => e = .returned (.int .i64 (cnt n)) ∧ w = w' := by
  go_enter Try.func103, Try.ntmps103
  go_wp2
  go_loop [0, 3] (fun a k => ∃ m j : Nat, m ≤ n ∧ j + m ≤ n + 1 ∧ a = .int .i64 m ∧ k = .int .i64 j ∧ cnt n + 1 = cnt m + j) (fun a _ => (intOf a).toNat)
  case atStart => exact ⟨n, 1, Nat.le_refl _, by omega, rfl, rfl, rfl⟩
  case round =>
    obtain ⟨m, j, hm, hj, rfl, rfl, hcn⟩ := hrel
    have HC := Lib.hid hcn
    clear hcn
    by_cases hlt : m < 128
    · go_wp2
      go_ret
      exact ⟨ret_eq (show Value.int IntKind.i64 (j : Int) = _ by have := HC.out; unfold cnt at this; rw [if_pos hlt] at this; congr 1; unfold cnt; omega), rfl⟩
    · go_wp2
      go_round
      case rel => exact ⟨m / 128, j + 1, by omega, by omega, by go_num, by go_num, by have := HC.out; rw [show cnt m = cnt (m / 128) + 1 by rw [cnt, if_neg hlt]] at this; omega⟩
      case measure => simp [intOf]; omega

theorem text_c (s : ByteArray) (w : World) (hn : s.size ≤ 140737488355328) :
    Calls Try.prog 104 #[.string s] w fun e w' => e = .returned (.int .i64 ((cnt s.size + s.size : Nat) : Int)) ∧ w = w' := by
  have := cnt_le s.size
  go_enter Try.func104, Try.ntmps104
  go_wp2_with (go_at_call 103; refine (count_c s.size w hn).mono ?_; rintro e w1 ⟨rfl, rfl⟩)
  go_ret
  exact ⟨rfl, rfl⟩

theorem wide_c (wd : Int) (w : World) :
    Calls Try.prog 115 #[.int .i64 wd] w fun e w' => e = .returned (.bool (decide (1 ≤ wd ∧ wd ≤ 32))) ∧ w = w' := by
  by_cases h1 : 1 ≤ wd <;> by_cases h2 : wd ≤ 32
  all_goals
    go_enter Try.func115, Try.ntmps115
    go_wp2
    go_ret
    exact ⟨ret_eq (by simp [h1, h2]), rfl⟩

end Go.Proofs.Ytajkoeodabmgeaa
