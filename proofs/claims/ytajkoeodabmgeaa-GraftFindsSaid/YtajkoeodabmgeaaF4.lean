import Derived.Test.YtajkoeodabmgeaaF3
namespace Go.Proofs.Ytajkoeodabmgeaa
open Go.RowKit
set_option maxHeartbeats 2000000
set_option maxRecDepth 100000
attribute [local go_sem] grow_cell grow_frozen grow_size

theorem findI_le (ps : List PairD) (k : ByteArray) : findI ps k ≤ ps.length := cntW_le _ _
theorem findB_lt {ps : List PairD} {k : ByteArray} (h : findB ps k = true) : findI ps k < ps.length := by
  unfold findB at h
  split at h
  · rename_i p hp
    exact (List.getElem?_eq_some_iff.1 hp).1
  · cases h
theorem at_many (ps : List PairD) (k : ByteArray) : findI ps k + manyB (findB ps k) ≤ ps.length := by
  have := findI_le ps k
  cases hb : findB ps k with
  | true => have := findB_lt hb; simp [manyB]; omega
  | false => simpa [manyB] using this

theorem one_pair (w : World) (p : PairD) : Rd (w.alloc (.cells #[.string p.k, .string p.v] 31)) 2 (some ⟨w.heap.size, 0, none⟩) 1 (pcells [p]) := by
  refine ⟨by simp [pcells_len], fun _ => ⟨w.heap.size, 0, rfl, fun j u hu => ?_⟩⟩
  rw [Nat.zero_add, cell_of_row _ _ j _ _ _ (heap_alloc_new w _), ← hu]
  simp [pcells, PairD.cells]

theorem putN_len (nd : NodeD) (p : PairD) : (putN nd p).pairs.length = nd.pairs.length - manyB (findB nd.pairs p.k) + 1 := by
  have := at_many nd.pairs p.k
  simp only [putN, List.length_append, List.length_take, List.length_drop, List.length_cons, List.length_nil]
  omega
theorem putN_cells (nd : NodeD) (p : PairD) : pcells (putN nd p).pairs = (pcells nd.pairs).take (findI nd.pairs p.k * 2) ++ pcells [p] ++ (pcells nd.pairs).drop ((findI nd.pairs p.k + manyB (findB nd.pairs p.k)) * 2) := by
  simp only [putN, pcells_append, pcells_take, pcells_drop]

theorem putP_pair (A0 : Option Addr) (c0 : Nat) (nd : NodeD) (p : PairD) (cur : World) (hR : Rd cur 2 A0 nd.pairs.length (pcells nd.pairs)) (hc : nd.pairs.length ≤ c0) (hroom : (nd.pairs.length + 1) * 32 ≤ 140737488355328) (m : Int) (hm : m = (manyB (findB nd.pairs p.k) : Nat)) :
    Calls Try.prog 65 #[.slice A0 nd.pairs.length c0, .int .i64 (findI nd.pairs p.k), .int .i64 m, .slice (some ⟨cur.heap.size, 0, none⟩) 1 1] (cur.alloc (.cells #[.string p.k, .string p.v] 31)) fun e w' =>
      (∃ A c, e = .returned (.slice A (putN nd p).pairs.length c) ∧ w'.ownsRow (cur.heap.size + 1) 31 2 (.slice A (putN nd p).pairs.length c) (putN nd p).pairs.length (pcells (putN nd p).pairs)) ∧ Below cur.heap.size cur w' := by
  subst hm
  have h1 := at_many nd.pairs p.k
  refine (putP_c A0 _ nd.pairs.length c0 1 1 (findI nd.pairs p.k) (manyB (findB nd.pairs p.k)) (pcells nd.pairs) (pcells [p]) _ (hR.below ((Below.refl _ _).alloc (Nat.le_refl _) _)) (one_pair cur p) hc h1 hroom (pc1 _) (pc1 _)).mono ?_
  rintro e w' ⟨⟨v, rfl, hown⟩, hb⟩
  rw [← putN_cells, ← putN_len] at hown
  obtain ⟨A, c, rfl, _, _⟩ := own_rd hown
  exact ⟨⟨A, c, rfl, by simpa using hown⟩, below_a hb⟩

theorem putN_own {w : World} {lo hi : Nat} {nd : NodeD} {p : PairD} {A : Option Addr} {c : Nat}
    (h : w.ownsRow lo 31 2 (.slice A (putN nd p).pairs.length c) (putN nd p).pairs.length (pcells (putN nd p).pairs)) (hhi : w.heap.size ≤ hi)
    (hb : (nd.pairs.length + 1) * 32 ≤ 140737488355328) (hpk : ∀ q ∈ nd.pairs, q.k.size ≤ 140737488355328 ∧ q.v.size ≤ 140737488355328) (hp : p.k.size ≤ 140737488355328 ∧ p.v.size ≤ 140737488355328) :
    OwN w lo hi A c none 0 none 0 (putN nd p) :=
  { pairs := h
    seps := World.ownsRow_nil _ _ _ _
    kids := World.ownsRow_nil _ _ _ _
    u0 := fun k hk => Nat.lt_of_lt_of_le (h.lt k hk).2 hhi
    u1 := fun k h => by simp [Value.ownBlock] at h
    u2 := fun k h => by simp [Value.ownBlock] at h
    hp := by rw [putN_len]; omega
    hs := by simp [putN]
    hk := by simp [putN]
    pk := fun q hq => by
      simp only [putN, List.mem_append, List.mem_singleton] at hq
      rcases hq with (hq | rfl) | hq
      · exact hpk q (List.mem_of_mem_take hq)
      · exact hp
      · exact hpk q (List.mem_of_mem_drop hq)
    sk := fun q hq => by simp [putN] at hq
    kk := fun q hq => by simp [putN] at hq }

/-- A node of one's own, and another block written. -/
theorem OwN.setRow {w : World} {lo hi : Nat} {A0 A1 A2 : Option Addr} {c0 c1 c2 : Nat} {nd : NodeD} (h : OwN w lo hi A0 c0 A1 c1 A2 c2 nd) (g : Nat) (cs : Array Value) (hg : g < lo) : OwN (w.setRow g cs) lo hi A0 c0 A1 c1 A2 c2 nd :=
  h.kept (S := fun k => k = g) ⟨rfl, rfl, rfl, by simp [World.setRow], fun k _ hs => setRow_other _ _ _ _ hs⟩ (fun k h1 _ h3 => by omega)

theorem put_fin (w w1 : World) (pg wd : Int) (nd : NodeD) (p : PairD) (A : Option Addr) (c : Nat) (hE : putE pg wd nd p = 0) (b : Bool) (hfb : findB nd.pairs p.k = b) (hb : Below w.heap.size w w1)
    (h : OwN w1 w.heap.size w1.heap.size A c none 0 none 0 (putN nd p)) :
    ∃ B0 d0, Ending.returned (.tuple #[.agg #[.slice A (putN nd p).pairs.length c, .slice none 0 0, .slice none 0 0], .bool b, .int .i64 0]) = .returned (.tuple #[vN B0 d0 none 0 none 0 (putR pg wd nd p), .bool (putB pg wd nd p), .int .i64 (putE pg wd nd p)]) ∧
      OwN w1 w.heap.size w1.heap.size B0 d0 none 0 none 0 (putR pg wd nd p) ∧ Below w.heap.size w w1 := by
  refine ⟨A, c, ?_, ?_, hb⟩
  · simp [putR, putB, hE, hfb]; simp [putN]
  · simpa only [putR, hE, if_true] using h

theorem put_ok (pg wd : Int) (A0 A1 A2 : Option Addr) (c0 c1 c2 : Nat) (nd : NodeD) (p : PairD) (w : World) (hN : RdN w A0 c0 A1 c1 A2 c2 nd) (hr : right pg wd = true) (hl : leafB pg wd nd = true) (hp : putP pg p = true)
    (hroom : (nd.pairs.length + 1) * 32 ≤ 140737488355328) (hpp : p.k.size ≤ 140737488355328 ∧ p.v.size ≤ 140737488355328) :
    Calls Try.prog 22 #[vF pg wd, vN A0 c0 A1 c1 A2 c2 nd, vP p] w fun e w' =>
      ∃ B0 d0, e = .returned (.tuple #[vN B0 d0 none 0 none 0 (putR pg wd nd p), .bool (putB pg wd nd p), .int .i64 (putE pg wd nd p)]) ∧
        OwN w' w.heap.size w'.heap.size B0 d0 none 0 none 0 (putR pg wd nd p) ∧ Below w.heap.size w w' := by
  have hE : putE pg wd nd p = 0 := by simp [putE, hr, hl, hp]
  have HE := Lib.hid hE
  have hrs := right_spec hr
  have HR := Lib.hid hr
  have HL := Lib.hid hl
  have HN := Lib.hid hN
  have HPP := Lib.hid hpp
  have h0 : 0 ≤ pg := by omega
  have h1 : pg ≤ 8192 := by omega
  have hps : (p.k.toList == []) = false ∧ ((pg / 16 < (p.k.size : Int)) ↔ False) ∧ ((pg / 8 < (p.v.size : Int)) ↔ False) := by
    simp only [putP, Bool.and_eq_true, Bool.not_eq_true', decide_eq_true_eq] at hp
    exact ⟨hp.1.1, iff_false_intro (by omega), iff_false_intro (by omega)⟩
  obtain ⟨k1, k2, k3⟩ := hps
  have hc0 := hN.hcp
  have hatm := at_many nd.pairs p.k
  have HAT := Lib.hid hatm
  clear hE hr hl hN hp hpp hatm
  cases hfb : findB nd.pairs p.k
  all_goals
    have HFB := Lib.hid hfb
    have HMA := Lib.hid (show ((manyB (findB nd.pairs p.k) : Nat) : Int) = _ from congrArg (fun b => ((manyB b : Nat) : Int)) hfb)
    clear hfb
    go_enter Try.func22, Try.ntmps22
    go_wp2_with (first
      | (go_at_call 61; refine (frame_v pg wd _ _ HR.out).mono ?_; rintro e w1 ⟨rfl, hb⟩; have hBB := put_first hb; clear hb; obtain ⟨⟨q0, q1⟩, ⟨q2, q3, q4⟩, q5, q6⟩ := put_boxes hBB; have q7 := put_lt hBB)
      | (go_at_call 62; refine (leaf_v pg wd A0 A1 A2 c0 c1 c2 nd _ (HN.out.put hBB) _ HL.out).mono ?_; rintro e w2 ⟨rfl, hb⟩; have hBB2 := put_next hBB hb; clear hb q0 q1 q2 q3 q4 q5 q6 q7 hBB; obtain ⟨⟨q0, q1⟩, ⟨q2, q3, q4⟩, q5, q6⟩ := put_boxes hBB2; have q7 := put_lt hBB2))
    have q8 : w.heap.size < w2.heap.size := by omega
    have q9 : w.heap.size + 1 < w2.heap.size := by omega
    have q10 : w.heap.size + 1 + 1 < w2.heap.size := by omega
    refine wp_region_grow (by kernel_rfl) (by kernel_rfl) ?_
    repeat (any_goals (first
      | go_big_quiet_step ((first | (go_at_call 63; exact quiet_below (maxKey_c pg wd _ h0 h1)) | (go_at_call 64; exact quiet_below (maxVal_c pg wd _ h0 h1))))
      | quiet_step ((first | (go_at_call 63; exact quiet_below (maxKey_c pg wd _ h0 h1)) | (go_at_call 64; exact quiet_below (maxVal_c pg wd _ h0 h1))))))
    refine wpQuiet_nil ?_
    intro w3 hb
    have hBB3 := put_next hBB2 hb
    clear hb q0 q1 q2 q3 q4 q5 q6 q7 q8 q9 q10 hBB2
    obtain ⟨⟨q0, q1⟩, ⟨q2, q3, q4⟩, q5, q6⟩ := put_boxes hBB3
    have q7 := put_lt hBB3
    have HG := Lib.hid (put_row hBB3)
    go_wp2_with (first
      | (go_at_call 42; refine (find_c A0 A1 A2 c0 c1 c2 nd p.k _ (HN.out.put hBB3)).mono ?_; rintro e w4 ⟨rfl, hb⟩; rw [HFB.out]; have hBB4 := put_next hBB3 hb; clear hb q0 q1 q2 q3 q4 q5 q6 q7 HG hBB3; obtain ⟨⟨q0, q1⟩, ⟨q2, q3, q4⟩, q5, q6⟩ := put_boxes hBB4; have q7 := put_lt hBB4))
    go_wp2_with (first
      | (go_at_call 65; refine (putP_pair A0 c0 nd p w4 (HN.out.put hBB4).pairs hc0 hroom _ HMA.out.symm).mono ?_; rintro e w5 ⟨⟨A, c, rfl, hown⟩, hb⟩; have hBB5 := put_next hBB4 hb; clear hb q0 q1 q2 q3 q4 q5 q6; have q7' := put_lt hBB4; clear hBB4 q7; have q7 := put_lt hBB5; have HG := Lib.hid (put_row hBB5); have HO := Lib.hid hown; clear hown)
      | (refine wpList_store_row rfl 29 (.tmp 6) (.tmp 59) rfl (w.heap.size + 1 + 1 + 1) #[.slice A (putN nd p).pairs.length c, .slice none 0 0, .slice none 0 0] rfl rfl 29 _ HG.out info29' rfl (sl3_one _ _ _ _ _ _ _ _ _) ?_))
    refine bodyPost_ret (results_ctt rfl _ _ (w.heap.size + 1 + 1 + 1) 29 #[.slice A (putN nd p).pairs.length c, .slice none 0 0, .slice none 0 0] (0, 0) _ rfl (setRow_block _ _ _ _ _ _ HG.out) Try.underlying29 rfl info29') rfl ?_
    exact put_fin w _ pg wd nd p A c HE.out _ HFB.out (below_setRow (put_below hBB5) (by omega) _) (((putN_own HO.out (Nat.le_refl _) hroom HN.out.pk HPP.out).setRow _ _ (by omega)).wide (by omega) (by simp [World.setRow]))

theorem put_c (pg wd : Int) (A0 A1 A2 : Option Addr) (c0 c1 c2 : Nat) (nd : NodeD) (p : PairD) (w : World) (hN : RdN w A0 c0 A1 c1 A2 c2 nd)
    (hroom : (nd.pairs.length + 1) * 32 ≤ 140737488355328) (hpp : p.k.size ≤ 140737488355328 ∧ p.v.size ≤ 140737488355328) :
    Calls Try.prog 22 #[vF pg wd, vN A0 c0 A1 c1 A2 c2 nd, vP p] w fun e w' =>
      ∃ B0 d0, e = .returned (.tuple #[vN B0 d0 none 0 none 0 (putR pg wd nd p), .bool (putB pg wd nd p), .int .i64 (putE pg wd nd p)]) ∧
        OwN w' w.heap.size w'.heap.size B0 d0 none 0 none 0 (putR pg wd nd p) ∧ Below w.heap.size w w' := by
  cases hr : right pg wd with
  | false => exact put_wrong pg wd A0 A1 A2 c0 c1 c2 nd p w hr
  | true =>
    cases hl : leafB pg wd nd with
    | false => exact put_unshaped pg wd A0 A1 A2 c0 c1 c2 nd p w hN hr hl
    | true =>
      cases hp : putP pg p with
      | false => exact put_arg pg wd A0 A1 A2 c0 c1 c2 nd p w hN hr hl hp
      | true => exact put_ok pg wd A0 A1 A2 c0 c1 c2 nd p w hN hr hl hp hroom hpp

end Go.Proofs.Ytajkoeodabmgeaa
