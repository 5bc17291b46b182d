import Derived.Test.YtajkoeodabmgeaaC4
namespace Go.Proofs.Ytajkoeodabmgeaa
open Go.RowKit
set_option maxHeartbeats 2000000
set_option maxRecDepth 100000
attribute [local go_sem] grow_cell grow_frozen grow_size freeS_size

theorem refSize_no (pg wd : Int) (A0 A1 A2 : Option Addr) (c0 c1 c2 : Nat) (nd : NodeD) (w : World) (hN : RdN w A0 c0 A1 c1 A2 c2 nd) (hc : ¬ checkE pg wd nd = 0) :
    Calls Try.prog 72 #[vF pg wd, vN A0 c0 A1 c1 A2 c2 nd] w fun e w' => e = .returned (.int .i64 (sizeE pg wd nd)) ∧ Below w.heap.size w w' := by
  have HN := Lib.hid hN
  have hne : (checkE pg wd nd != 0) = true := by rw [bne_iff_ne]; exact hc
  have HC := Lib.hid hc
  clear hc hN
  go_enter Try.func72, Try.ntmps72
  go_wp2_with (first
    | (go_at_call 69; refine (refCheck_c pg wd A0 A1 A2 c0 c1 c2 nd _ (HN.out.boxes below_start)).mono ?_; rintro e w1 ⟨rfl, hb⟩; have hBB := below_first hb; clear hb; obtain ⟨⟨q0, q1⟩, ⟨q2, q3, q4⟩, q5⟩ := two_boxes hBB))
  go_ret
  exact ⟨ret_eq (show Value.int IntKind.i64 0 = _ by rw [sizeE, if_neg HC.out]), below_aa (hBB.mono (by simp))⟩

theorem refSize_leaf (pg : Int) (wd : Nat) (A0 A1 A2 : Option Addr) (c0 c1 c2 : Nat) (nd : NodeD) (w : World) (hN : RdN w A0 c0 A1 c1 A2 c2 nd) (hc : checkE pg wd nd = 0) (hlf : leafD nd) :
    Calls Try.prog 72 #[vF pg wd, vN A0 c0 A1 c1 A2 c2 nd] w fun e w' => e = .returned (.int .i64 (sizeD wd nd)) ∧ Below w.heap.size w w' := by
  obtain ⟨hr, hsh⟩ := checkE_zero hc
  obtain ⟨⟨h0, h1⟩, h2, h3⟩ := right_spec hr
  have hlf' : decide (nd.seps.length = 0 ∧ nd.kids.length = 0) = true := decide_eq_true hlf
  have HL' := Lib.hid hlf'
  have HL := Lib.hid hlf
  have HC := Lib.hid hc
  have hpl := hN.hp
  have hkb : ∀ p ∈ nd.pairs, p.k.size ≤ 512 ∧ p.v.size ≤ 1024 := by
    simp only [shaped, hlf, if_true] at hsh
    intro p hp
    obtain ⟨i, hi, e⟩ := List.getElem_of_mem hp
    have a := (hsh.1 i (by simpa using hi)).1.2
    have b : ¬ pg / 8 < p.v.size := fun h => hsh.2 ⟨p, hp, h⟩
    simp only [List.getElem_map, e] at a
    omega
  have hpb : ∀ p ∈ nd.pairs, psz p ≤ 3074 := fun p hp => by
    have := hkb p hp; have := tx_le p.k; have := tx_le p.v; unfold psz; omega
  have HKB := Lib.hid hkb
  have HPB := Lib.hid hpb
  have hcl := cnt_le nd.pairs.length
  have HN := Lib.hid hN
  clear hlf' hlf hsh hkb hpb hr hc hN
  go_enter Try.func72, Try.ntmps72
  go_wp2_with (first
    | (go_at_call 69; refine (refCheck_v pg wd A0 A1 A2 c0 c1 c2 nd _ (HN.out.boxes below_start) 0 HC.out).mono ?_; rintro e w1 ⟨rfl, hb⟩; have hBB := below_first hb; clear hb; obtain ⟨⟨q0, q1⟩, ⟨q2, q3, q4⟩, q5⟩ := two_boxes hBB)
    | (go_at_call 70; refine (refLeaf_c _ _ _ _ _ _ _ _ _ _ true HL'.out).mono ?_; rintro e w2 ⟨rfl, hb⟩; have hBn := below_s0 hBB (by omega) hb; clear hBB hb q0 q1 q2 q3 q4 q5; have hBB := hBn; clear hBn; obtain ⟨⟨q0, q1⟩, ⟨q2, q3, q4⟩, q5⟩ := two_boxes hBB)
    | (go_at_call 92; refine (freeR_c _ _ (by omega)).mono ?_; rintro e w2 ⟨rfl, hb⟩; have hBn := below_s0 hBB (by omega) hb; clear hBB hb q0 q1 q2 q3 q4 q5; have hBB := hBn; clear hBn; obtain ⟨⟨q0, q1⟩, ⟨q2, q3, q4⟩, q5⟩ := two_boxes hBB))
  go_loopw [5, 6] (fun s i wr => ∃ k : Nat, k ≤ nd.pairs.length ∧ i = .int .i64 k ∧ s = .int .i64 ((1 + cnt nd.pairs.length + ((nd.pairs.take k).map psz).sum : Nat) : Int) ∧
      Below (w.heap.size + 1 + 1) ((w.alloc (.cells #[.int .i64 pg, .int .i64 (wd : Int)] 24)).alloc (.cells #[.slice A0 nd.pairs.length c0, .slice A1 nd.seps.length c1, .slice A2 nd.kids.length c2] 29)) wr) (fun _ i _ => nd.pairs.length - (intOf i).toNat)
  case atStart => exact ⟨0, Nat.zero_le _, rfl, by simp, hBB⟩
  case round =>
    clear hBB q0 q1 q2 q3 q4 q5
    obtain ⟨k, hk, rfl, rfl, hB⟩ := hrel
    have hBB := hB
    clear hB
    obtain ⟨⟨q0, q1⟩, ⟨q2, q3, q4⟩, q5⟩ := two_boxes hBB
    have hs := sum_take_le psz 3074 nd.pairs k HPB.out hk
    by_cases hlt : k < nd.pairs.length
    · obtain ⟨ab, ao, rfl, hk0, hk1⟩ := pairs_at (HN.out.boxes hBB).pairs hlt
      obtain ⟨hb2, hb3⟩ := HKB.out _ (List.getElem_mem hlt)
      have hst := Lib.hid (sum_take psz nd.pairs k hlt)
      have ht1 := cnt_le nd.pairs[k].k.size
      have ht2 := cnt_le nd.pairs[k].v.size
      generalize hS : ((nd.pairs.take k).map psz).sum = S at *
      have HS := Lib.hid hS
      clear hS
      go_wp2_with (first
        | (go_at_call 92; refine (freeR_c _ _ (by omega)).mono ?_; rintro e w2 ⟨rfl, hb⟩; have hBn := below_s0 hBB (by omega) hb; clear hBB hb q0 q1 q2 q3 q4 q5; have hBB := hBn; clear hBn; obtain ⟨⟨q0, q1⟩, ⟨q2, q3, q4⟩, q5⟩ := two_boxes hBB))
      go_roundw
      case rel => exact ⟨k + 1, by omega, by go_num, by rw [hst.out]; congr 1; simp only [psz, tx]; omega, hBB⟩
      case measure => simp [intOf]; omega
    · go_wp2
      go_ret
      exact ⟨ret_eq (show Value.int IntKind.i64 ((1 + cnt nd.pairs.length + ((nd.pairs.take k).map psz).sum : Nat) : Int) = _ by
        rw [show k = nd.pairs.length by omega, List.take_length, sizeD, if_pos HL.out]), below_aa (hBB.mono (by simp))⟩

theorem refSize_branch (pg : Int) (wd : Nat) (A0 A1 A2 : Option Addr) (c0 c1 c2 : Nat) (nd : NodeD) (w : World) (hN : RdN w A0 c0 A1 c1 A2 c2 nd) (hc : checkE pg wd nd = 0) (hlf : ¬ leafD nd) :
    Calls Try.prog 72 #[vF pg wd, vN A0 c0 A1 c1 A2 c2 nd] w fun e w' => e = .returned (.int .i64 (sizeD wd nd)) ∧ Below w.heap.size w w' := by
  obtain ⟨hr, hsh⟩ := checkE_zero hc
  obtain ⟨⟨h0, h1⟩, h2, h3⟩ := right_spec hr
  have hlf' : decide (nd.seps.length = 0 ∧ nd.kids.length = 0) = false := decide_eq_false hlf
  have HL' := Lib.hid hlf'
  have HL := Lib.hid hlf
  have HC := Lib.hid hc
  have hkl := hN.hk
  have hsl := hN.hs
  have hsb : ∀ s ∈ nd.seps, s.size ≤ 512 := by
    simp only [shaped, hlf, if_false] at hsh
    intro p hp
    obtain ⟨i, hi, e⟩ := List.getElem_of_mem hp
    have a := (hsh.2.2.2.2 i (by simpa using hi)).1.2
    rw [e] at a
    omega
  have htb : ∀ s ∈ nd.seps, tx s ≤ 1025 := fun p hp => by
    have := hsb p hp; have := tx_le p; omega
  have HSB := Lib.hid hsb
  have HTB := Lib.hid htb
  have hcl := cnt_le nd.kids.length
  have hmul : (nd.kids.length : Int) * (4 + (wd : Int)) ≤ 140737488355328 := by
    have a : (nd.kids.length : Int) * (4 + (wd : Int)) ≤ (nd.kids.length : Int) * 36 := Int.mul_le_mul_of_nonneg_left (by omega) (by omega)
    omega
  have hmul0 : 0 ≤ (nd.kids.length : Int) * (4 + (wd : Int)) := Int.mul_nonneg (by omega) (by omega)
  generalize hM : (nd.kids.length : Int) * (4 + (wd : Int)) = M at hmul hmul0
  have HM := Lib.hid hM
  have HN := Lib.hid hN
  clear hlf' hlf hsh hsb htb hr hM hc hN
  go_enter Try.func72, Try.ntmps72
  go_wp2_with (first
    | (go_at_call 69; refine (refCheck_v pg wd A0 A1 A2 c0 c1 c2 nd _ (HN.out.boxes below_start) 0 HC.out).mono ?_; rintro e w1 ⟨rfl, hb⟩; have hBB := below_first hb; clear hb; obtain ⟨⟨q0, q1⟩, ⟨q2, q3, q4⟩, q5⟩ := two_boxes hBB)
    | (go_at_call 70; refine (refLeaf_c _ _ _ _ _ _ _ _ _ _ false HL'.out).mono ?_; rintro e w2 ⟨rfl, hb⟩; have hBn := below_s0 hBB (by omega) hb; clear hBB hb q0 q1 q2 q3 q4 q5; have hBB := hBn; clear hBn; obtain ⟨⟨q0, q1⟩, ⟨q2, q3, q4⟩, q5⟩ := two_boxes hBB))
  have q6 : w.heap.size < w2.heap.size := by omega
  refine wp_region_grow (by kernel_rfl) (by kernel_rfl) ?_
  repeat (any_goals (first | go_big_quiet_step ((go_at_call 92; exact quiet_below (freeR_c nd.kids.length _ (by omega)))) | quiet_step ((go_at_call 92; exact quiet_below (freeR_c nd.kids.length _ (by omega))))))
  refine wpQuiet_nil ?_
  intro w3 hb
  have ew : wrap64 (1 + (cnt nd.kids.length : Int) + wrap64 ((nd.kids.length : Int) * (4 + (wd : Int)))) = 1 + (cnt nd.kids.length : Int) + M := by rw [HM.out]; unfold wrap64; omega
  simp only [ew]
  have hBn := below_s0 hBB (by omega) hb
  clear hBB hb ew q0 q1 q2 q3 q4 q5 q6
  have hBB := hBn
  clear hBn
  obtain ⟨⟨q0, q1⟩, ⟨q2, q3, q4⟩, q5⟩ := two_boxes hBB
  go_wp2
  go_loopw [9, 10] (fun s i wr => ∃ k : Nat, k ≤ nd.seps.length ∧ i = .int .i64 k ∧ s = .int .i64 (1 + (cnt nd.kids.length : Int) + M + ((nd.seps.take k).map tx).sum) ∧
      Below (w.heap.size + 1 + 1) ((w.alloc (.cells #[.int .i64 pg, .int .i64 (wd : Int)] 24)).alloc (.cells #[.slice A0 nd.pairs.length c0, .slice A1 nd.seps.length c1, .slice A2 nd.kids.length c2] 29)) wr) (fun _ i _ => nd.seps.length - (intOf i).toNat)
  case atStart => exact ⟨0, Nat.zero_le _, rfl, by simp, hBB⟩
  case round =>
    clear hBB q0 q1 q2 q3 q4 q5
    obtain ⟨k, hk, rfl, rfl, hB⟩ := hrel
    have hBB := hB
    clear hB
    obtain ⟨⟨q0, q1⟩, ⟨q2, q3, q4⟩, q5⟩ := two_boxes hBB
    have hs := sum_take_le tx 1025 nd.seps k HTB.out hk
    by_cases hlt : k < nd.seps.length
    · obtain ⟨ab, ao, rfl, hk0⟩ := seps_at (HN.out.boxes hBB).seps hlt
      have hb1 := HSB.out _ (List.getElem_mem hlt)
      have hst := Lib.hid (sum_take tx nd.seps k hlt)
      have ht1 := cnt_le nd.seps[k].size
      generalize hS : ((nd.seps.take k).map tx).sum = S at *
      have HS := Lib.hid hS
      clear hS
      go_wp2_with (first
        | (go_at_call 92; refine (freeR_c _ _ (by omega)).mono ?_; rintro e w2 ⟨rfl, hb⟩; have hBn := below_s0 hBB (by omega) hb; clear hBB hb q0 q1 q2 q3 q4 q5; have hBB := hBn; clear hBn; obtain ⟨⟨q0, q1⟩, ⟨q2, q3, q4⟩, q5⟩ := two_boxes hBB))
      go_roundw
      case rel => exact ⟨k + 1, by omega, by go_num, by rw [hst.out]; congr 1; simp only [tx]; omega, hBB⟩
      case measure => simp [intOf]; omega
    · go_wp2
      go_ret
      exact ⟨ret_eq (show Value.int IntKind.i64 (1 + (cnt nd.kids.length : Int) + M + ((nd.seps.take k).map tx).sum) = _ by
        rw [show k = nd.seps.length by omega, List.take_length, sizeD, if_neg HL.out, ← HM.out]; congr 1), below_aa (hBB.mono (by simp))⟩

theorem refSize_c (pg wd : Int) (A0 A1 A2 : Option Addr) (c0 c1 c2 : Nat) (nd : NodeD) (w : World) (hN : RdN w A0 c0 A1 c1 A2 c2 nd) :
    Calls Try.prog 72 #[vF pg wd, vN A0 c0 A1 c1 A2 c2 nd] w fun e w' => e = .returned (.int .i64 (sizeE pg wd nd)) ∧ Below w.heap.size w w' := by
  by_cases hc : checkE pg wd nd = 0
  · obtain ⟨hr, _⟩ := checkE_zero hc
    obtain ⟨wn, rfl⟩ : ∃ n : Nat, wd = n := ⟨wd.toNat, by have := right_spec hr; omega⟩
    have hfin : sizeE pg wn nd = sizeD wn nd := by rw [sizeE, if_pos hc]; rfl
    rw [hfin]
    by_cases h : leafD nd
    · exact refSize_leaf pg wn A0 A1 A2 c0 c1 c2 nd w hN hc h
    · exact refSize_branch pg wn A0 A1 A2 c0 c1 c2 nd w hN hc h
  · exact refSize_no pg wd A0 A1 A2 c0 c1 c2 nd w hN hc

end Go.Proofs.Ytajkoeodabmgeaa
