import Derived.Test.YtajkoeodabmgeaaB4
namespace Go.Proofs.Ytajkoeodabmgeaa
open Go.RowKit
set_option maxHeartbeats 2000000
set_option maxRecDepth 100000
attribute [local go_sem] grow_cell grow_frozen grow_size

abbrev bl (a b : ByteArray) : Bool := Op.bytesLess a.toList b.toList

/-- Is the key number i as it should be: 1 to mk bytes, above the one ahead? -/
def keyOk (mk : Int) (ks : List ByteArray) (i : Nat) (h : i < ks.length) : Prop :=
  (1 ≤ ks[i].size ∧ (ks[i].size : Int) ≤ mk) ∧ (0 < i → bl (ks[i - 1]'(by omega)) ks[i] = true)
instance (mk : Int) (ks : List ByteArray) (i : Nat) (h : i < ks.length) : Decidable (keyOk mk ks i h) := by unfold keyOk; infer_instance
def rises (mk : Int) (ks : List ByteArray) : Prop := ∀ i (h : i < ks.length), keyOk mk ks i h
instance (mk : Int) (ks : List ByteArray) : Decidable (rises mk ks) := by unfold rises; infer_instance
def risesB (mk : Int) (ks : List ByteArray) : Bool := decide (rises mk ks)

theorem risesP_c (A : Option Addr) (c : Nat) (l : List PairD) (pg wd : Int) (w : World) (hR : Rd w 2 A l.length (pcells l)) (hl : l.length * 32 ≤ 140737488355328)
    (h0 : 0 ≤ pg) (h1 : pg ≤ 8192) (hv : ∀ p ∈ l, p.k.size ≤ 140737488355328) :
    Calls Try.prog 95 #[vF pg wd, .slice A l.length c, .func (.func 96) #[] #[]] w fun e w' => e = .returned (.bool (risesB (pg / 16) (l.map (·.k)))) ∧ Below w.heap.size w w' := by
  have HV := Lib.hid hv
  clear hv
  have hR1 := hR.below ((Below.refl w.heap.size w).alloc (Nat.le_refl _) (.cells #[.int .i64 pg, .int .i64 wd] 24))
  go_enter Try.func95, Try.ntmps95
  go_wp2
  go_loopw [12] (fun i wr => ∃ k : Nat, k ≤ l.length ∧ i = .int .i64 k ∧ Hid (∀ j (h : j < (l.map (·.k)).length), j < k → keyOk (pg / 16) (l.map (·.k)) j h) ∧ Below (w.heap.size + 1) (w.alloc (.cells #[.int .i64 pg, .int .i64 wd] 24)) wr) (fun i _ => l.length - (intOf i).toNat)
  case atStart => exact ⟨0, Nat.zero_le _, rfl, fun j h h' => absurd h' (by omega), Below.refl _ _⟩
  case round =>
    obtain ⟨k, hk, rfl, hno, hB⟩ := hrel
    have hR' := hR1.below (hB.mono (by simp))
    have hcf0 : wr.cell? ⟨w.heap.size, 0, none⟩ = some (.int .i64 pg) := (hB.cell (p := ⟨w.heap.size, 0, none⟩) (by simp)).trans (cell_of_row _ _ _ _ _ _ (heap_alloc_new w _))
    have hcf1 : wr.cell? ⟨w.heap.size, 1, none⟩ = some (.int .i64 wd) := (hB.cell (p := ⟨w.heap.size, 1, none⟩) (by simp)).trans (cell_of_row _ _ _ _ _ _ (heap_alloc_new w _))
    have hBw : Below w.heap.size w wr := ((Below.refl _ _).alloc (Nat.le_refl _) _).trans (hB.mono (by omega))
    have hsz := hB.size
    simp only [World.size_alloc] at hsz
    clear hR hR1
    by_cases hlt : k < l.length
    · obtain ⟨ab, ao, rfl, hk0, hk1⟩ := pairs_at hR' hlt
      have habl : ab < wr.heap.size := World.block_lt_of_cell? _ _ hk0
      have habl1 : ab < wr.heap.size + 1 := by omega
      have habl3 : ab ≤ wr.heap.size := by omega
      have hsz1 : w.heap.size < wr.heap.size + 1 := by omega
      have hsz2 : w.heap.size < wr.heap.size := by omega
      have hsz3 : w.heap.size ≤ wr.heap.size := by omega
      have hvk := HV.out _ (List.getElem_mem hlt)
      have hBB := hB
      have hBz : Below w.heap.size w (w.alloc (.cells #[.int .i64 pg, .int .i64 wd] 24)) := (Below.refl _ _).alloc (Nat.le_refl _) _
      have hkm : k < (l.map (·.k)).length := by simpa using hlt
      clear hB hBw
      by_cases a1 : 1 ≤ l[k].k.size
      · by_cases a2 : (l[k].k.size : Int) ≤ pg / 16
        · rcases k with _ | k
          · simp only [Nat.zero_mul, Nat.add_zero] at hk0 hk1
            clear hR'
            go_wp2_with (first | (go_at_call 96; refine (check2_c _ _ _).mono ?_; rintro e w1 ⟨rfl, hb⟩; obtain ⟨hc, hf⟩ := bcell hb; have hBn := (by first | exact below_s0 hBB (by omega) hb | exact below_s1 hBB (by omega) hb : Below (w.heap.size + 1) (w.alloc (.cells #[.int .i64 pg, .int .i64 wd] 24)) w1); clear hBB; have hBB := hBn; clear hBn; have y1 : w.heap.size < w1.heap.size := (by have := hBB.size; simp only [World.size_alloc] at this; omega); have y2 : ab < w1.heap.size := (by have := hb.size; (try simp only [World.size_alloc] at this); omega)) | (go_at_call 63; refine (maxKey_c pg wd _ h0 h1).mono ?_; rintro e w1 ⟨rfl, hb⟩; obtain ⟨hc2, hf2⟩ := bcell hb; have hBn := below_s0 hBB (by omega) hb; clear hBB; have hBB := hBn; clear hBn; have y1 : w.heap.size < w1.heap.size := (by have := hBB.size; simp only [World.size_alloc] at this; omega); have y2 : ab < w1.heap.size := (by have := hb.size; omega)))
            go_roundw
            case rel => exact ⟨1, by omega, rfl, fun j h h' => by
              obtain rfl : j = 0 := by omega
              exact ⟨by simpa using ⟨a1, a2⟩, fun h => absurd h (by omega)⟩, hBB⟩
            case measure => simp [intOf]; omega
          · obtain ⟨ab', ao', he, hj0, hj1⟩ := pairs_at hR' (k := k) (by omega)
            cases he
            clear hR'
            cases a4 : bl l[k].k l[k + 1].k with
            | true =>
              go_wp2_with (first | (go_at_call 96; refine (check2_c _ _ _).mono ?_; rintro e w1 ⟨rfl, hb⟩; obtain ⟨hc, hf⟩ := bcell hb; have hBn := (by first | exact below_s0 hBB (by omega) hb | exact below_s1 hBB (by omega) hb : Below (w.heap.size + 1) (w.alloc (.cells #[.int .i64 pg, .int .i64 wd] 24)) w1); clear hBB; have hBB := hBn; clear hBn; have y1 : w.heap.size < w1.heap.size := (by have := hBB.size; simp only [World.size_alloc] at this; omega); have y2 : ab < w1.heap.size := (by have := hb.size; (try simp only [World.size_alloc] at this); omega)) | (go_at_call 63; refine (maxKey_c pg wd _ h0 h1).mono ?_; rintro e w1 ⟨rfl, hb⟩; obtain ⟨hc2, hf2⟩ := bcell hb; have hBn := below_s0 hBB (by omega) hb; clear hBB; have hBB := hBn; clear hBn; have y1 : w.heap.size < w1.heap.size := (by have := hBB.size; simp only [World.size_alloc] at this; omega); have y2 : ab < w1.heap.size := (by have := hb.size; omega)))
              go_roundw
              case rel => exact ⟨k + 1 + 1, by omega, by go_num, fun j h h' => by
                by_cases e : j = k + 1
                · subst e
                  exact ⟨by simpa using ⟨a1, a2⟩, fun _ => by simpa using a4⟩
                · exact hno.out j h (by omega), hBB⟩
              case measure => simp [intOf]; omega
            | false =>
              go_wp2_with (first | (go_at_call 96; refine (check2_c _ _ _).mono ?_; rintro e w1 ⟨rfl, hb⟩; obtain ⟨hc, hf⟩ := bcell hb; have hBn := (by first | exact below_s0 hBB (by omega) hb | exact below_s1 hBB (by omega) hb : Below (w.heap.size + 1) (w.alloc (.cells #[.int .i64 pg, .int .i64 wd] 24)) w1); clear hBB; have hBB := hBn; clear hBn; have y1 : w.heap.size < w1.heap.size := (by have := hBB.size; simp only [World.size_alloc] at this; omega); have y2 : ab < w1.heap.size := (by have := hb.size; (try simp only [World.size_alloc] at this); omega)) | (go_at_call 63; refine (maxKey_c pg wd _ h0 h1).mono ?_; rintro e w1 ⟨rfl, hb⟩; obtain ⟨hc2, hf2⟩ := bcell hb; have hBn := below_s0 hBB (by omega) hb; clear hBB; have hBB := hBn; clear hBn; have y1 : w.heap.size < w1.heap.size := (by have := hBB.size; simp only [World.size_alloc] at this; omega); have y2 : ab < w1.heap.size := (by have := hb.size; omega)))
              go_ret
              exact ⟨ret_eq (show Value.bool false = _ by rw [show risesB (pg / 16) (l.map (·.k)) = false from decide_eq_false (fun h => by have := (h (k + 1) hkm).2 (by omega); simp at this; rw [this] at a4; cases a4)]), hBz.trans (hBB.mono (by omega))⟩
        · go_wp2_with (first | (go_at_call 96; refine (check2_c _ _ _).mono ?_; rintro e w1 ⟨rfl, hb⟩; obtain ⟨hc, hf⟩ := bcell hb; have hBn := (by first | exact below_s0 hBB (by omega) hb | exact below_s1 hBB (by omega) hb : Below (w.heap.size + 1) (w.alloc (.cells #[.int .i64 pg, .int .i64 wd] 24)) w1); clear hBB; have hBB := hBn; clear hBn; have y1 : w.heap.size < w1.heap.size := (by have := hBB.size; simp only [World.size_alloc] at this; omega); have y2 : ab < w1.heap.size := (by have := hb.size; (try simp only [World.size_alloc] at this); omega)) | (go_at_call 63; refine (maxKey_c pg wd _ h0 h1).mono ?_; rintro e w1 ⟨rfl, hb⟩; obtain ⟨hc2, hf2⟩ := bcell hb; have hBn := below_s0 hBB (by omega) hb; clear hBB; have hBB := hBn; clear hBn; have y1 : w.heap.size < w1.heap.size := (by have := hBB.size; simp only [World.size_alloc] at this; omega); have y2 : ab < w1.heap.size := (by have := hb.size; omega)))
          go_ret
          exact ⟨ret_eq (show Value.bool false = _ by rw [show risesB (pg / 16) (l.map (·.k)) = false from decide_eq_false (fun h => by have := (h k hkm).1.2; simp at this; omega)]), hBz.trans (hBB.mono (by omega))⟩
      · go_wp2_with (first | (go_at_call 96; refine (check2_c _ _ _).mono ?_; rintro e w1 ⟨rfl, hb⟩; obtain ⟨hc, hf⟩ := bcell hb; have hBn := (by first | exact below_s0 hBB (by omega) hb | exact below_s1 hBB (by omega) hb : Below (w.heap.size + 1) (w.alloc (.cells #[.int .i64 pg, .int .i64 wd] 24)) w1); clear hBB; have hBB := hBn; clear hBn; have y1 : w.heap.size < w1.heap.size := (by have := hBB.size; simp only [World.size_alloc] at this; omega); have y2 : ab < w1.heap.size := (by have := hb.size; (try simp only [World.size_alloc] at this); omega)) | (go_at_call 63; refine (maxKey_c pg wd _ h0 h1).mono ?_; rintro e w1 ⟨rfl, hb⟩; obtain ⟨hc2, hf2⟩ := bcell hb; have hBn := below_s0 hBB (by omega) hb; clear hBB; have hBB := hBn; clear hBn; have y1 : w.heap.size < w1.heap.size := (by have := hBB.size; simp only [World.size_alloc] at this; omega); have y2 : ab < w1.heap.size := (by have := hb.size; omega)))
        go_ret
        exact ⟨ret_eq (show Value.bool false = _ by rw [show risesB (pg / 16) (l.map (·.k)) = false from decide_eq_false (fun h => by have := (h k hkm).1.1; simp at this; omega)]), hBz.trans (hBB.mono (by omega))⟩
    · go_wp2
      go_ret
      exact ⟨ret_eq (show Value.bool true = _ by rw [show risesB (pg / 16) (l.map (·.k)) = true from decide_eq_true (fun j h => hno.out j h (by simp at h; omega))]), hBw⟩

end Go.Proofs.Ytajkoeodabmgeaa
