import Derived.Test.YtajkoeodabmgeaaJ1
namespace Go.Proofs.Ytajkoeodabmgeaa
open Go.RowKit
set_option maxHeartbeats 2000000
set_option maxRecDepth 100000

theorem lawFrame_c (w : World) : Calls Try.prog 39 #[] w fun e w' => e = .returned (vF 1024 32) ∧ Below w.heap.size w w' := by
  go_enter Try.func39, Try.ntmps39
  go_wp2
  refine bodyPost_ret (results_cell_row rfl _ _ w.heap.size 24 #[.int .i64 1024, .int .i64 32] (0, 0) _ rfl (heap_alloc_new _ _) Try.underlying24 rfl (by kernel_rfl)) rfl ?_
  exact ⟨rfl, (Below.refl _ _).alloc (Nat.le_refl _) _⟩

theorem small_c (w : World) : Calls Try.prog 59 #[] w fun e w' => (∃ g, e = .returned (vN (some ⟨g, 0, none⟩) 3 none 0 none 0 smallN) ∧ RdN w' (some ⟨g, 0, none⟩) 3 none 0 none 0 smallN) ∧ Below w.heap.size w w' := by
  go_enter Try.func59, Try.ntmps59
  go_wp2
  refine bodyPost_ret (results_cell_row rfl _ _ w.heap.size 29 #[.slice (some ⟨w.heap.size + 1, 0, none⟩) 3 3, .slice none 0 0, .slice none 0 0] (0, 0) _ rfl ((Below.heap_alloc _ _ _ (by simp)).trans (heap_alloc_new _ _)) Try.underlying29 rfl info29') rfl ?_
  refine ⟨⟨w.heap.size + 1, rfl, ?_⟩, ((Below.refl _ _).alloc (Nat.le_refl _) _).alloc (by simp) _⟩
  exact {
    pairs := ⟨by simp [pcells_len], fun _ => ⟨w.heap.size + 1, 0, rfl, fun j u hu => by
      rw [Nat.zero_add, cell_of_row _ _ j _ _ _ (alloc2_at w _ _), ← hu]
      simp [pcells, smallN, PairD.cells]⟩⟩
    seps := Rd.none_
    kids := Rd.none_
    hp := by decide
    hs := by decide
    hk := by decide
    hcp := by decide
    hcs := by decide
    hck := by decide
    pk := by
      intro p hp
      simp only [smallN, List.mem_cons, List.not_mem_nil, or_false] at hp
      rcases hp with rfl | rfl | rfl <;> exact ⟨by decide, by decide⟩
    sk := fun s hs => by simp [smallN] at hs
    kk := fun s hs => by simp [smallN] at hs }

theorem awake_c (w : World) : Calls Try.prog 20 #[] w fun e w' => e = .returned (.bool true) ∧ Below w.heap.size w w' := by
  go_enter Try.func20, Try.ntmps20
  go_wp2_with (first
    | (go_at_call 39; refine (lawFrame_c _).mono ?_; rintro e w1 ⟨rfl, hb1⟩)
    | (go_at_call 59; refine (small_c _).mono ?_; rintro e w2 ⟨⟨g, rfl, hrd⟩, hb2⟩; have HR := Lib.hid hrd; clear hrd)
    | (go_at_call 22; refine (put_c 1024 32 _ _ _ _ _ _ smallN pairC _ HR.out (by decide) (by decide)).mono ?_; rw [small_putE, small_putB, small_putR]; rintro e w3 ⟨B0, d0, rfl, hown, hb3⟩; have hB3 : Below w.heap.size w w3 := (hb1.trans (hb2.mono hb1.size)).trans (hb3.mono (Nat.le_trans hb1.size hb2.size)); clear HR hb1 hb2 hb3; obtain ⟨ab, ao, rfl, p0, p1⟩ := pairs_at hown.rd.pairs (k := 1) (by decide); obtain ⟨ab', ao', he, s0, s1⟩ := pairs_at hown.rd.pairs (k := 2) (by decide); cases he; have P0 := Lib.hid (show w3.cell? ⟨ab, ao + 2, none⟩ = some (.string ⟨#[99]⟩) from p0); have P1 := Lib.hid (show w3.cell? ⟨ab, ao + 2 + 1, none⟩ = some (.string ⟨#[57]⟩) from p1); have S0 := Lib.hid (show w3.cell? ⟨ab, ao + 4, none⟩ = some (.string ⟨#[100]⟩) from s0); clear hown p0 p1 s0 s1))
  go_wp2_with (first
    | (go_at_call 32; refine (split_c 1024 32 _ _ _ _ _ _ smallN _ HR.out).mono ?_; rw [small_splitE, small_splitL, small_splitR, small_splitS]; rintro e w6 ⟨x, y, mid, rfl, hx, hy, hb6, hm⟩; clear hx hy hm; have hB6 := (hb1.trans (hb2.mono hb1.size)).trans (hb6.mono (Nat.le_trans hb1.size hb2.size)); clear hb1 hb2 hb6 HR)
    | (go_at_call 27; refine (between_c _ _ _ (by decide) (by decide)).mono ?_; rw [apr_S, apr_E]; rintro e w8 ⟨rfl, hb8⟩; have hg8 := (hb8.block w6.heap.size (by simp)).trans (heap_alloc_new _ _); have hB68 := below_a hb8; have hB36 := below_a hB6; have hg3 := (hB68.block w3.heap.size (by have := hB6.size; simp at this; omega)).trans ((hB6.block w3.heap.size (by simp)).trans (heap_alloc_new _ _)); have hB38 := hB36.trans (hB68.mono hB36.size); have hab := World.block_lt_of_cell? _ _ P0.out; have p0 := (hB38.cell (p := ⟨ab, ao + 2, none⟩) hab).trans P0.out; have p1 := (hB38.cell (p := ⟨ab, ao + 2 + 1, none⟩) hab).trans P1.out; have s0 := (hB38.cell (p := ⟨ab, ao + 4, none⟩) hab).trans S0.out; have n0 := cell_of_row _ _ 0 _ _ _ hg3; obtain ⟨⟨h0, _, _⟩, h4, _, _⟩ := box7 hg8; have h3 := cell_of_row _ _ 3 _ _ _ hg8; clear hg8 hg3 hb8 hB6 P0 P1 S0 hB68 hB36))
  go_ret
  exact ⟨rfl, hB3.trans (hB38.mono hB3.size)⟩

end Go.Proofs.Ytajkoeodabmgeaa
