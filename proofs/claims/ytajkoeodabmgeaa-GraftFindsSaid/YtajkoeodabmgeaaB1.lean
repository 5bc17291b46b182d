import Derived.Test.YtajkoeodabmgeaaB0
namespace Go.Proofs.Ytajkoeodabmgeaa
open Go.RowKit
set_option maxHeartbeats 400000

theorem ret_eq {a b : Value} (h : a = b) : Ending.returned a = .returned b := by rw [h]

theorem maxKey_c (pg wd : Int) (w : World) (h0 : 0 ≤ pg) (h1 : pg ≤ 8192) :
    Calls Try.prog 63 #[vF pg wd] w fun e w' => e = .returned (.int .i64 (pg / 16)) ∧ Below w.heap.size w w' := by
  go_enter Try.func63, Try.ntmps63
  go_wp2
  go_ret
  exact ⟨rfl, (Below.refl _ _).alloc (Nat.le_refl _) _⟩

theorem maxVal_c (pg wd : Int) (w : World) (h0 : 0 ≤ pg) (h1 : pg ≤ 8192) :
    Calls Try.prog 64 #[vF pg wd] w fun e w' => e = .returned (.int .i64 (pg / 8)) ∧ Below w.heap.size w w' := by
  go_enter Try.func64, Try.ntmps64
  go_wp2
  go_ret
  exact ⟨rfl, (Below.refl _ _).alloc (Nat.le_refl _) _⟩

theorem room_c (pg wd : Int) (w : World) (h0 : 0 ≤ pg) (h1 : pg ≤ 8192) :
    Calls Try.prog 80 #[vF pg wd] w fun e w' => e = .returned (.int .i64 (pg - 32)) ∧ Below w.heap.size w w' := by
  go_enter Try.func80, Try.ntmps80
  go_wp2
  go_ret
  exact ⟨rfl, (Below.refl _ _).alloc (Nat.le_refl _) _⟩

/-- A world behind a block of the call's own and a call. -/
theorem below_a {w w1 : World} {o : Obj} (hb : Below (w.alloc o).heap.size (w.alloc o) w1) : Below w.heap.size w w1 :=
  ((Below.refl _ _).alloc (Nat.le_refl _) _).trans (hb.mono (by simp))

theorem below_s1 {B : Nat} {a w w1 : World} {o : Obj} (h : Below B a w) (hB : B ≤ w.heap.size) (hb : Below (w.alloc o).heap.size (w.alloc o) w1) : Below B a w1 :=
  (h.alloc hB o).trans (hb.mono (by simp; omega))
theorem below_s0 {B : Nat} {a w w1 : World} (h : Below B a w) (hB : B ≤ w.heap.size) (hb : Below w.heap.size w w1) : Below B a w1 :=
  h.trans (hb.mono hB)

theorem least_c (pg wd : Int) (w : World) (h0 : 1024 ≤ pg) (h1 : pg ≤ 8192) :
    Calls Try.prog 81 #[vF pg wd] w fun e w' => e = .returned (.int .i64 ((pg - 30) / 3)) ∧ Below w.heap.size w w' := by
  go_enter Try.func81, Try.ntmps81
  go_wp2_with (go_at_call 80; refine (room_c pg wd _ (by omega) (by omega)).mono ?_; rintro e w1 ⟨rfl, hb⟩)
  go_ret
  exact ⟨ret_eq (show Value.int IntKind.i64 ((pg - 32 + 2) / 3) = _ by rw [show pg - 32 + 2 = pg - 30 by omega]), below_a hb⟩

theorem isLeaf_c (A0 A1 A2 : Option Addr) (n0 c0 n1 c1 n2 c2 : Nat) (w : World) (b : Bool) (hb : decide (n1 = 0 ∧ n2 = 0) = b) :
    Calls Try.prog 93 #[.agg #[.slice A0 n0 c0, .slice A1 n1 c1, .slice A2 n2 c2]] w fun e w' => e = .returned (.bool b) ∧ Below w.heap.size w w' := by
  subst hb
  by_cases h1 : n1 = 0 <;> by_cases h2 : n2 = 0
  all_goals
    go_enter Try.func93, Try.ntmps93
    go_wp2
    go_ret
    exact ⟨ret_eq (by simp [h1, h2]), (Below.refl _ _).alloc (Nat.le_refl _) _⟩

def right (pg wd : Int) : Bool := decide ((pg = 1024 ∨ pg = 2048 ∨ pg = 4096 ∨ pg = 8192) ∧ 1 ≤ wd ∧ wd ≤ 32)

theorem index_c (A : Option Addr) (c : Nat) (l : List Int) (x : Int) (w : World) (hR : Rd w 1 A l.length (l.map (.int .i64))) (hl : l.length ≤ 65536) :
    Calls Try.prog 105 #[.slice A l.length c, .int .i64 x] w fun e w' => (∃ r : Int, e = .returned (.int .i64 r) ∧ (0 ≤ r ↔ x ∈ l)) ∧ w = w' := by
  go_enter Try.func105, Try.ntmps105
  go_wp2
  go_loop [8] (fun i => ∃ k : Nat, k ≤ l.length ∧ i = .int .i64 k ∧ ∀ j (h : j < k) (h' : j < l.length), l[j] ≠ x) (fun i => l.length - (intOf i).toNat)
  case atStart => exact ⟨0, Nat.zero_le _, rfl, fun j h => absurd h (by omega)⟩
  case round =>
    obtain ⟨k, hk, rfl, hno⟩ := hrel
    have HN := Lib.hid hno
    clear hno
    by_cases hlt : k < l.length
    · obtain ⟨ab, ao, rfl, hc⟩ := hR.2 (by omega)
      have hcell : w.cell? ⟨ab, ao + k, none⟩ = some (.int .i64 l[k]) := hc k _ (by simp [hlt])
      have hs := hR.1
      clear hc hs hR
      by_cases hx : x = l[k]
      · have hx1 : (x == l[k]) = true := by simpa using hx
        have HX := Lib.hid hx
        clear hx
        go_wp2
        go_ret
        exact ⟨⟨(k : Int), rfl, by have := HX.out; simp [this]⟩, rfl⟩
      · have hx1 : (x == l[k]) = false := by simpa using hx
        have HX := Lib.hid hx
        clear hx
        go_wp2
        go_round
        case rel => exact ⟨k + 1, by omega, by go_num, fun j h h' => by
          by_cases e : j = k
          · subst e; exact fun e' => HX.out e'.symm
          · exact HN.out j (by omega) h'⟩
        case measure => simp [intOf]; omega
    · go_wp2
      go_ret
      exact ⟨⟨-1, rfl, by
        constructor
        · omega
        · intro hm
          obtain ⟨j, hj, e⟩ := List.getElem_of_mem hm
          exact absurd e (HN.out j (by omega) hj)⟩, rfl⟩

end Go.Proofs.Ytajkoeodabmgeaa
