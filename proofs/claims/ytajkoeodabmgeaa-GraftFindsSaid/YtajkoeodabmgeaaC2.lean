import Derived.Test.YtajkoeodabmgeaaC1
import Derived.Test.YtajkoeodabmgeaaB0o
namespace Go.Proofs.Ytajkoeodabmgeaa
open Go.RowKit
set_option maxHeartbeats 2000000
set_option maxRecDepth 100000
attribute [local go_sem] grow_cell grow_frozen grow_size

def shapedB (pg : Int) (wd : Nat) (nd : NodeD) : Bool := decide (shaped pg wd nd)

theorem shapedR_leaf (pg : Int) (wd : Nat) (A0 A1 A2 : Option Addr) (c0 c1 c2 : Nat) (nd : NodeD) (w : World) (hr : right pg wd = true) (hN : RdN w A0 c0 A1 c1 A2 c2 nd) (hlf : leafD nd) :
    Calls Try.prog 91 #[vF pg wd, vN A0 c0 A1 c1 A2 c2 nd] w fun e w' => e = .returned (.bool (shapedB pg wd nd)) ∧ Below w.heap.size w w' := by
  obtain ⟨⟨h0, h1⟩, h2, h3⟩ := right_spec hr
  obtain ⟨i0, hi, hz0, hz1, hz2⟩ := info_parts info9
  have hlf' : decide (nd.seps.length = 0 ∧ nd.kids.length = 0) = true := decide_eq_true hlf
  have HL' := Lib.hid hlf'
  have HL := Lib.hid hlf
  have hPl := hN.hp
  have HPK := Lib.hid hN.pk
  have HN := Lib.hid hN
  clear hlf hlf' hr hN
  go_enter Try.func91, Try.ntmps91
  go_wp2_with (first
    | (go_at_call 70; refine (refLeaf_c _ _ _ _ _ _ _ _ _ _ true HL'.out).mono ?_; rintro e w1 ⟨rfl, hb⟩; have hBB := below_first hb; clear hb; obtain ⟨⟨q0, q1⟩, ⟨q2, q3, q4⟩, q5⟩ := two_boxes hBB))
  go_loopw [5, 6] (fun v i wr => ∃ k : Nat, k ≤ nd.pairs.length ∧ i = .int .i64 k ∧ wr.ownsRow (w.heap.size + 1 + 1) 9 1 v k (scells ((nd.pairs.take k).map (·.k))) ∧ Hid (∀ j (h : j < nd.pairs.length), j < k → (nd.pairs[j].v.size : Int) ≤ pg / 8) ∧
      Below (w.heap.size + 1 + 1) ((w.alloc (.cells #[.int .i64 pg, .int .i64 (wd : Int)] 24)).alloc (.cells #[.slice A0 nd.pairs.length c0, .slice A1 nd.seps.length c1, .slice A2 nd.kids.length c2] 29)) wr) (fun _ i _ => nd.pairs.length - (intOf i).toNat)
  case atStart => exact ⟨0, Nat.zero_le _, rfl, World.ownsRow_nil _ _ _ _, fun j h h' => absurd h' (by omega), hBB⟩
  case round =>
    clear hBB q0 q1 q2 q3 q4 q5
    obtain ⟨k, hk, rfl, hown, hno, hB⟩ := hrel
    obtain ⟨⟨q0, q1⟩, ⟨q2, q3, q4⟩, q5⟩ := two_boxes hB
    have hP := HN.out.boxes hB
    by_cases hlt : k < nd.pairs.length
    · obtain ⟨ab, ao, rfl, hk0, hk1⟩ := pairs_at hP.pairs hlt
      clear hP
      have hsz := hB.size
      simp only [World.size_alloc] at hsz
      go_wp2_with (at_builtin; refine wpList_append_own _ rfl _ _ 26 rfl (w.heap.size + 1 + 1) 9 i0 (.string ⟨#[]⟩) 1 16 Try.underlying26 hi hz0 hz1 hz2 rfl (by decide) _ _ _ rfl (hown.alloc _) ⟨wr.heap.size, 0, none⟩ 1 1 [.string nd.pairs[k].k] rfl rfl (fun j u h => one_cell_at wr 9 _ j u h) (by simp [Value.oneCell']) (by unfold maxLen; omega) (by omega) (by simp; omega) ?_; intro v' w2 hown' hgrow _; have hB2 := (hB.alloc (by omega) _).grown hgrow (by simp; omega) (fun k e => (hown.lt k e).1); clear hgrow hown hB q0 q1 q2 q3 q4 q5 hk0 hk1; obtain ⟨⟨q0, q1⟩, ⟨q2, q3, q4⟩, q5⟩ := two_boxes hB2; obtain ⟨ab', ao', he, hk0, hk1⟩ := pairs_at (HN.out.boxes hB2).pairs hlt; cases he; have q6 : w.heap.size < w2.heap.size := (by omega); have habl : ab < w2.heap.size := World.block_lt_of_cell? _ _ hk0)
      by_cases hx : pg / 8 < (nd.pairs[k].v.size : Int)
      · refine wp_region_grow (by kernel_rfl) (by kernel_rfl) ?_
        repeat (any_goals (first | go_big_quiet_step (fail) | quiet_step (fail)))
        refine wpQuiet_nil ?_
        intro w3 hb
        go_wp2
        go_ret
        exact ⟨ret_eq (show Value.bool false = _ by
          rw [show shapedB pg wd nd = false from decide_eq_false (fun h => by
            rw [shaped, if_pos HL.out] at h
            exact h.2 ⟨_, List.getElem_mem hlt, hx⟩)]), below_s0 (below_aa (hB2.mono (by simp))) (by omega) hb⟩
      · refine wp_region_grow (by kernel_rfl) (by kernel_rfl) ?_
        repeat (any_goals (first | go_big_quiet_step (fail) | quiet_step (fail)))
        refine wpQuiet_nil ?_
        intro w3 hb
        go_wp2
        go_roundw
        case rel => exact ⟨k + 1, by omega, by go_num, own_below (by rw [List.take_succ_eq_append_getElem hlt, List.map_append, scells, List.map_append]; exact hown') hb, fun j h h' => by
          by_cases e : j = k
          · subst e; omega
          · exact hno.out j h (by omega), below_s0 hB2 (by omega) hb⟩
        case measure => simp [intOf]; omega
    · obtain rfl : k = nd.pairs.length := by omega
      rw [List.take_length] at hown
      obtain ⟨Ak, ck, rfl, hnc, hRd⟩ := own_rd hown
      have hfin : risesB (pg / 16) (nd.pairs.map (·.k)) = shapedB pg wd nd := by
        unfold risesB shapedB
        rw [Bool.eq_iff_iff, decide_eq_true_iff, decide_eq_true_iff, shaped, if_pos HL.out]
        constructor
        · intro h
          refine ⟨h, ?_⟩
          rintro ⟨p, hp, hv⟩
          obtain ⟨j, hj, e⟩ := List.getElem_of_mem hp
          subst e
          have := hno.out j hj hj
          omega
        · exact fun h => h.1
      have HF := Lib.hid hfin
      have hw := below_aa (hB.mono (by simp))
      have hsz := hw.size
      clear hfin hown hP hlt
      go_wp2_with (go_at_call 110; refine (keys_n Ak ck _ (nd.pairs.map (·.k)) (pg / 16) _ (by simp) hRd (by simp; omega) (by intro s hs; obtain ⟨p, hp, rfl⟩ := List.mem_map.1 hs; exact (HPK.out p hp).1)).mono ?_; rw [HF.out]; rintro e w3 ⟨rfl, hb⟩)
      go_ret
      exact ⟨rfl, below_s0 hw hsz hb⟩

end Go.Proofs.Ytajkoeodabmgeaa
