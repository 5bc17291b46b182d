import Derived.Test.YtajkoeodabmgeaaB10
namespace Go.Proofs.Ytajkoeodabmgeaa
open Go.RowKit
set_option maxHeartbeats 2000000
set_option maxRecDepth 100000
attribute [local go_sem] grow_cell grow_frozen grow_size

theorem refRight_c (pg wd : Int) (w : World) :
    Calls Try.prog 66 #[vF pg wd] w fun e w' => e = .returned (.bool (right pg wd)) ∧ Below w.heap.size w w' := by
  have hw : (1 ≤ wd ∧ wd ≤ 32) ∨ (1 ≤ wd ∧ ¬ wd ≤ 32) ∨ (¬ 1 ≤ wd) := by omega
  by_cases hp : pg = 1024 ∨ pg = 2048 ∨ pg = 4096 ∨ pg = 8192
  · rcases hp with rfl | rfl | rfl | rfl
    all_goals
      rcases hw with ⟨a1, a2⟩ | ⟨a1, a2⟩ | a1
      all_goals
        go_enter Try.func66, Try.ntmps66
        go_wp2
        go_ret
        exact ⟨ret_eq (by simp [right]; omega), (Below.refl _ _).alloc (Nat.le_refl _) _⟩
  · have e1 : (pg == 1024) = false := by simp; omega
    have e2 : (pg == 2048) = false := by simp; omega
    have e3 : (pg == 4096) = false := by simp; omega
    have e4 : (pg == 8192) = false := by simp; omega
    have HP := Lib.hid hp
    clear hp hw
    go_enter Try.func66, Try.ntmps66
    go_wp2
    go_ret
    exact ⟨ret_eq (show Value.bool false = _ by rw [show right pg wd = false from decide_eq_false (fun h => HP.out h.1)]), (Below.refl _ _).alloc (Nat.le_refl _) _⟩

theorem refLeaf_c (A0 A1 A2 : Option Addr) (n0 c0 n1 c1 n2 c2 : Nat) (w : World) (b : Bool) (hb : decide (n1 = 0 ∧ n2 = 0) = b) :
    Calls Try.prog 70 #[.agg #[.slice A0 n0 c0, .slice A1 n1 c1, .slice A2 n2 c2]] w fun e w' => e = .returned (.bool b) ∧ Below w.heap.size w w' := by
  subst hb
  by_cases h1 : n1 = 0 <;> by_cases h2 : n2 = 0
  all_goals
    go_enter Try.func70, Try.ntmps70
    go_wp2
    go_ret
    exact ⟨ret_eq (by simp [h1, h2]), (Below.refl _ _).alloc (Nat.le_refl _) _⟩

theorem keys_c (A : Option Addr) (c : Nat) (l : List ByteArray) (mk : Int) (w : World) (hR : Rd w 1 A l.length (scells l)) (hl : l.length * 16 ≤ 140737488355328) (hv : ∀ p ∈ l, p.size ≤ 140737488355328) :
    Calls Try.prog 110 #[.slice A l.length c, .int .i64 mk] w fun e w' => e = .returned (.bool (risesB mk l)) ∧ Below w.heap.size w w' := by
  have HV := Lib.hid hv
  clear hv
  go_enter Try.func110, Try.ntmps110
  go_wp2
  go_loopw [5] (fun i wr => ∃ k : Nat, k ≤ l.length ∧ i = .int .i64 k ∧ Hid (∀ j (h : j < l.length), j < k → keyOk mk l j h) ∧ Below w.heap.size w wr) (fun i _ => l.length - (intOf i).toNat)
  case atStart => exact ⟨0, Nat.zero_le _, rfl, fun j h h' => absurd h' (by omega), Below.refl _ _⟩
  case round =>
    obtain ⟨k, hk, rfl, hno, hB⟩ := hrel
    have hR' := hR.below hB
    have hsz := hB.size
    clear hR
    by_cases hlt : k < l.length
    · obtain ⟨ab, ao, rfl, hk0⟩ := seps_at hR' hlt
      have habl : ab < wr.heap.size := World.block_lt_of_cell? _ _ hk0
      have hvk := HV.out _ (List.getElem_mem hlt)
      have hki : (k : Int) < l.length := by omega
      go_wp2
      by_cases a1 : 1 ≤ l[k].size
      · have d1 : decide ((l[k].size : Int) < 1) = false := by simp; omega
        by_cases a2 : (l[k].size : Int) ≤ mk
        · have d2 : decide (mk < (l[k].size : Int)) = false := by simp; omega
          rcases k with _ | k
          · simp only [Nat.add_zero] at hk0
            have d3 : decide ((0 : Int) < 0) = false := by simp
            clear hR'
            refine wp_region_grow (by kernel_rfl) (by kernel_rfl) ?_
            repeat (any_goals (first | go_big_quiet_step (fail) | quiet_step (fail)))
            refine wpQuiet_nil ?_
            intro w1 hb
            go_wp2
            go_roundw
            case rel => exact ⟨1, by omega, rfl, fun j h h' => by
              obtain rfl : j = 0 := by omega
              exact ⟨⟨a1, a2⟩, fun h => absurd h (by omega)⟩, below_s0 hB hsz hb⟩
            case measure => simp [intOf]; omega
          · obtain ⟨ab', ao', he, hj0⟩ := seps_at hR' (k := k) (by omega)
            cases he
            clear hR'
            have d3 : decide ((0 : Int) < (k : Int) + 1) = true := decide_eq_true (by omega)
            cases a4 : bl l[k] l[k + 1] with
            | true =>
              refine wp_region_grow (by kernel_rfl) (by kernel_rfl) ?_
              repeat (any_goals (first | go_big_quiet_step (fail) | quiet_step (fail)))
              refine wpQuiet_nil ?_
              intro w1 hb
              go_wp2
              go_roundw
              case rel => exact ⟨k + 1 + 1, by omega, by go_num, fun j h h' => by
                by_cases e : j = k + 1
                · subst e
                  exact ⟨⟨a1, a2⟩, fun _ => a4⟩
                · exact hno.out j h (by omega), below_s0 hB hsz hb⟩
              case measure => simp [intOf]; omega
            | false =>
              refine wp_region_grow (by kernel_rfl) (by kernel_rfl) ?_
              repeat (any_goals (first | go_big_quiet_step (fail) | quiet_step (fail)))
              refine wpQuiet_nil ?_
              intro w1 hb
              go_wp2
              go_ret
              exact ⟨ret_eq (show Value.bool false = _ by rw [show risesB mk l = false from decide_eq_false (fun h => by have := (h (k + 1) hlt).2 (by omega); rw [show l[k + 1 - 1] = l[k] from rfl, a4] at this; cases this)]), below_s0 hB hsz hb⟩
        · have d2 : decide (mk < (l[k].size : Int)) = true := by simp; omega
          refine wp_region_grow (by kernel_rfl) (by kernel_rfl) ?_
          repeat (any_goals (first | go_big_quiet_step (fail) | quiet_step (fail)))
          refine wpQuiet_nil ?_
          intro w1 hb
          go_wp2
          go_ret
          exact ⟨ret_eq (show Value.bool false = _ by rw [show risesB mk l = false from decide_eq_false (fun h => by have := (h k hlt).1.2; omega)]), below_s0 hB hsz hb⟩
      · have d1 : decide ((l[k].size : Int) < 1) = true := by simp; omega
        refine wp_region_grow (by kernel_rfl) (by kernel_rfl) ?_
        repeat (any_goals (first | go_big_quiet_step (fail) | quiet_step (fail)))
        refine wpQuiet_nil ?_
        intro w1 hb
        go_wp2
        go_ret
        exact ⟨ret_eq (show Value.bool false = _ by rw [show risesB mk l = false from decide_eq_false (fun h => by have := (h k hlt).1.1; omega)]), below_s0 hB hsz hb⟩
    · go_wp2
      go_ret
      exact ⟨ret_eq (show Value.bool true = _ by rw [show risesB mk l = true from decide_eq_true (fun j h => hno.out j h (by omega))]), hB⟩

theorem keys_n (A : Option Addr) (c n : Nat) (l : List ByteArray) (mk : Int) (w : World) (hn : n = l.length) (hR : Rd w 1 A n (scells l)) (hl : l.length * 16 ≤ 140737488355328) (hv : ∀ p ∈ l, p.size ≤ 140737488355328) :
    Calls Try.prog 110 #[.slice A n c, .int .i64 mk] w fun e w' => e = .returned (.bool (risesB mk l)) ∧ Below w.heap.size w w' := by
  subst hn; exact keys_c A c l mk w hR hl hv

end Go.Proofs.Ytajkoeodabmgeaa
