import Derived.Test.YtajkoeodabmgeaaK1
namespace Go.Proofs.Ytajkoeodabmgeaa
open Go.RowKit
set_option maxHeartbeats 2000000
set_option maxRecDepth 100000

theorem separates_law (l r : ByteArray) (w : World) (hl : l.size ≤ 140737488355328) (hr : r.size ≤ 140737488355328) :
    Calls Try.prog 8 #[.string l, .string r] w fun e w' => e = .returned (.bool true) ∧ Below w.heap.size w w' := by
  cases h : bl l r with
  | false =>
    have hb : Op.bytesLess l.toList r.toList = false := h
    have H := Lib.hid h
    clear h
    go_enter Try.func8, Try.ntmps8
    go_wp2_with (first
      | (go_at_call 27; refine (between_err l r _ H.out).mono ?_; rintro e w1 ⟨rfl, hb1⟩)
      | (go_at_call 20; refine (awake_c _).mono ?_; rintro e w3 ⟨rfl, hb3⟩))
    go_ret
    exact ⟨rfl, hb1.trans (hb3.mono hb1.size)⟩
  | true =>
    have hb : Op.bytesLess l.toList r.toList = true := h
    have hlt : lt l.data.toList r.data.toList = true := by rw [← toList_data, ← toList_data]; exact h
    have hrl : r.data.toList.length = r.size := by simp
    have hrr := lcp_lt_right hlt
    rw [hrl] at hrr
    have t1 := take_lcp_succ hlt
    have t2 := take_le r.data.toList (lcp l.data.toList r.data.toList + 1)
    have t3 := take_lcp l.data.toList r.data.toList _ (Nat.le_refl _)
    have H := Lib.hid h
    have hbt := fun w => between_ok l r w hl hr H.out
    have HBT := Lib.hid hbt
    generalize lcp l.data.toList r.data.toList = C at *
    have ex : ∀ n, (r.extract 0 n).toList = r.data.toList.take n := fun n => by rw [toList_data]; simp
    obtain ⟨s, hs⟩ : ∃ s, s = r.extract 0 (C + 1) := ⟨_, rfl⟩
    obtain ⟨t, ht⟩ : ∃ t, t = r.extract 0 C := ⟨_, rfl⟩
    have hs1 : s.toList = r.data.toList.take (C + 1) := by rw [hs, ex]
    have ht1 : t.toList = r.data.toList.take C := by rw [ht, ex]
    have hsz : s.size = C + 1 := by rw [hs]; simp; omega
    rw [← hs1] at t1 t2
    rw [← ht1] at t3
    rw [← toList_data] at t1 t2 t3
    rw [← hs] at hbt
    have HB2 := Lib.hid hbt
    have a1 : Op.bytesLess s.toList l.toList = false := lt_asymm t1
    have a2 : (s.toList == l.toList) = false := by rw [beq_eq_false_iff_ne]; intro e; rw [e] at t1; rw [show lt l.toList l.toList = false from lt_irrefl _] at t1; cases t1
    have hx : r.extract 0 (C + 1) = s := hs.symm
    have hy : r.extract 0 C = t := ht.symm
    have hsr : (Op.bytesLess s.toList r.toList = true) ∨ (Op.bytesLess s.toList r.toList = false ∧ (s.toList == r.toList) = true) := by
      rcases not_lt t2 with e | e
      · right
        rw [e]
        exact ⟨lt_irrefl _, by simp⟩
      · left; exact e
    have htl : (Op.bytesLess t.toList l.toList = true) ∨ (Op.bytesLess t.toList l.toList = false ∧ (t.toList == l.toList) = true) := by
      rcases not_lt t3 with e | e
      · right
        rw [← e]
        exact ⟨lt_irrefl _, by simp⟩
      · left; exact e
    clear hbt HBT H h hlt t1 t2 t3 ex hs ht hs1 ht1 hrl
    rcases hsr with s1 | ⟨s1, s2⟩ <;> rcases htl with t1 | ⟨t1, t2⟩
    all_goals
      go_enter Try.func8, Try.ntmps8
      go_wp2_with (first
        | (go_at_call 27; refine (HB2.out _).mono ?_; rintro e w1 ⟨rfl, hb1⟩)
        | (go_at_call 20; refine (awake_c _).mono ?_; rintro e w3 ⟨rfl, hb3⟩))
      go_ret
      exact ⟨rfl, hb1.trans (hb3.mono hb1.size)⟩

end Go.Proofs.Ytajkoeodabmgeaa
