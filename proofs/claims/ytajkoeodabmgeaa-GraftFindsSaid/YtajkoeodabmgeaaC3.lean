import Derived.Test.YtajkoeodabmgeaaC2
namespace Go.Proofs.Ytajkoeodabmgeaa
open Go.RowKit
set_option maxHeartbeats 2000000
set_option maxRecDepth 100000
attribute [local go_sem] grow_cell grow_frozen grow_size

/-- A load of a digest out of the middle of a block, in a region that draws its order. -/
theorem wpQuiet_load83 {w : World} {ops : Array Oper} {Q : Act → Prop} {a : Act} {o : Oper} {rest : List Oper} (hw : Region.wanted o (yielded ops a.tmps) = true) (x : Operand) (ho : o.op = .load 83 x)
    (b off : Nat) (hx : a.eval x = .pointer (some ⟨b, off, none⟩)) (ds : List Int) (hl : ds.length = 32) (hr : w.rangeAt b off (ds.map (Value.int .u8)))
    (h : wpQuiet Try.prog ops (fun w' => ∃ x, w' = grow w x) Q rest (a.put o.dst (.agg (vD ds)))) : wpQuiet Try.prog ops (fun w' => ∃ x, w' = grow w x) Q (o :: rest) a := by
  refine wpQuiet_step fun K hK => ?_
  rw [if_pos hw]
  refine ⟨.agg (vD ds), ?_, hK _ h⟩
  rintro w' ⟨e, rfl⟩
  have hr' : (grow w e).rangeAt b off (ds.map (Value.int .u8)) := fun j v hv => by
    have h1 := hr j v hv
    rw [grow_cell _ _ _ (World.block_lt_of_cell? _ _ h1)]
    exact h1
  unfold Oper.quietAt execOp
  simp only [ho, hx, Instr.loadAt, Instr.sureAddr, Sem.run_bind, Sem.run_pure, Result.andThen_ok, run_loadVar_mid (grow w e) b off 83 (ds.map (Value.int .u8)) _ hr' Try.underlying83 rfl (by rw [List.length_map, hl]; exact info83)]
  exact ⟨rfl, rfl⟩

theorem fitsR_b (wd : Nat) (ds : List Int) (w : World) (hl : ds.length = 32) (h2 : wd ≤ 32) (b : Bool) (hb : fitsB wd ds = b) :
    Calls Try.prog 111 #[.int .i64 wd, .agg (vD ds)] w fun e w' => e = .returned (.bool b) ∧ Below w.heap.size w w' := by
  subst hb; exact fitsR_c wd ds w hl h2

theorem keys_v (A : Option Addr) (c : Nat) (l : List ByteArray) (mk : Int) (w : World) (hR : Rd w 1 A l.length (scells l)) (hl : l.length * 16 ≤ 140737488355328) (hv : ∀ p ∈ l, p.size ≤ 140737488355328) (b : Bool) (hb : risesB mk l = b) :
    Calls Try.prog 110 #[.slice A l.length c, .int .i64 mk] w fun e w' => e = .returned (.bool b) ∧ Below w.heap.size w w' := by
  subst hb; exact keys_c A c l mk w hR hl hv

theorem shapedR_branch (pg : Int) (wd : Nat) (A0 A1 A2 : Option Addr) (c0 c1 c2 : Nat) (nd : NodeD) (w : World) (hr : right pg wd = true) (hN : RdN w A0 c0 A1 c1 A2 c2 nd) (hlf : ¬ leafD nd) :
    Calls Try.prog 91 #[vF pg wd, vN A0 c0 A1 c1 A2 c2 nd] w fun e w' => e = .returned (.bool (shapedB pg wd nd)) ∧ Below w.heap.size w w' := by
  obtain ⟨⟨h0, h1⟩, h2, h3⟩ := right_spec hr
  have hlf' : decide (nd.seps.length = 0 ∧ nd.kids.length = 0) = false := decide_eq_false hlf
  have HL' := Lib.hid hlf'
  have hfin : shapedB pg wd nd = decide (nd.pairs.length = 0 ∧ 2 ≤ nd.kids.length ∧ nd.seps.length + 1 = nd.kids.length ∧ (¬ ∃ k ∈ nd.kids, fitsB wd k.sum = false) ∧ rises (pg / 16) nd.seps) := by
    unfold shapedB
    simp only [shaped, if_neg hlf]
  have HF := Lib.hid hfin
  have hkl := hN.hk
  have hsl := hN.hs
  have HKK := Lib.hid hN.kk
  have HSK := Lib.hid hN.sk
  have HN := Lib.hid hN
  clear hlf hlf' hr hN hfin
  have hcase : (¬ nd.pairs.length = 0) ∨ (nd.pairs.length = 0 ∧ ¬ 2 ≤ nd.kids.length) ∨ (nd.pairs.length = 0 ∧ 2 ≤ nd.kids.length ∧ ¬ nd.seps.length + 1 = nd.kids.length) ∨ (nd.pairs.length = 0 ∧ 2 ≤ nd.kids.length ∧ nd.seps.length + 1 = nd.kids.length) := by omega
  rcases hcase with hp | ⟨hp, hk⟩ | ⟨hp, hk, hs⟩ | ⟨hp, hk, hs⟩
  · have hp1 : 0 < nd.pairs.length := by omega
    have HP := Lib.hid hp
    clear hp
    go_enter Try.func91, Try.ntmps91
    go_wp2_with (first
      | (go_at_call 70; refine (refLeaf_c _ _ _ _ _ _ _ _ _ _ false HL'.out).mono ?_; rintro e w1 ⟨rfl, hb⟩; have hBB := below_first hb; clear hb; obtain ⟨⟨q0, q1⟩, ⟨q2, q3, q4⟩, q5⟩ := two_boxes hBB))
    go_ret
    exact ⟨ret_eq (show Value.bool false = _ by rw [HF.out]; exact congrArg Value.bool (decide_eq_false (fun h => HP.out h.1)).symm), below_aa (hBB.mono (by simp))⟩
  · have HP := Lib.hid hp
    have hp1 : ¬ 0 < nd.pairs.length := by omega
    have hk1 : nd.kids.length < 2 := by omega
    have HK := Lib.hid hk
    clear hp hk
    go_enter Try.func91, Try.ntmps91
    go_wp2_with (first
      | (go_at_call 70; refine (refLeaf_c _ _ _ _ _ _ _ _ _ _ false HL'.out).mono ?_; rintro e w1 ⟨rfl, hb⟩; have hBB := below_first hb; clear hb; obtain ⟨⟨q0, q1⟩, ⟨q2, q3, q4⟩, q5⟩ := two_boxes hBB))
    go_ret
    exact ⟨ret_eq (show Value.bool false = _ by rw [HF.out]; exact congrArg Value.bool (decide_eq_false (fun h => HK.out h.2.1)).symm), below_aa (hBB.mono (by simp))⟩
  · have HP := Lib.hid hp
    have hp1 : ¬ 0 < nd.pairs.length := by omega
    have hk1 : ¬ nd.kids.length < 2 := by omega
    have hs1 : ((nd.seps.length : Int) != (nd.kids.length : Int) - 1) = true := by rw [bne_iff_ne]; omega
    have HS := Lib.hid hs
    clear hp hk hs
    go_enter Try.func91, Try.ntmps91
    go_wp2_with (first
      | (go_at_call 70; refine (refLeaf_c _ _ _ _ _ _ _ _ _ _ false HL'.out).mono ?_; rintro e w1 ⟨rfl, hb⟩; have hBB := below_first hb; clear hb; obtain ⟨⟨q0, q1⟩, ⟨q2, q3, q4⟩, q5⟩ := two_boxes hBB))
    go_ret
    exact ⟨ret_eq (show Value.bool false = _ by rw [HF.out]; exact congrArg Value.bool (decide_eq_false (fun h => HS.out h.2.2.1)).symm), below_aa (hBB.mono (by simp))⟩
  · have HP := Lib.hid hp
    have hp1 : ¬ 0 < nd.pairs.length := by omega
    have hk1 : ¬ nd.kids.length < 2 := by omega
    have hs1 : ((nd.seps.length : Int) != (nd.kids.length : Int) - 1) = false := by rw [bne_eq_false_iff_eq]; omega
    have HS := Lib.hid hs
    have HK := Lib.hid hk
    clear hp hk hs
    go_enter Try.func91, Try.ntmps91
    go_wp2_with (first
      | (go_at_call 70; refine (refLeaf_c _ _ _ _ _ _ _ _ _ _ false HL'.out).mono ?_; rintro e w1 ⟨rfl, hb⟩; have hBB := below_first hb; clear hb; obtain ⟨⟨q0, q1⟩, ⟨q2, q3, q4⟩, q5⟩ := two_boxes hBB))
    go_loopw [7] (fun i wr => ∃ k : Nat, k ≤ nd.kids.length ∧ i = .int .i64 k ∧ Hid (∀ j (h : j < nd.kids.length), j < k → fitsB wd nd.kids[j].sum = true) ∧
      Below (w.heap.size + 1 + 1) ((w.alloc (.cells #[.int .i64 pg, .int .i64 (wd : Int)] 24)).alloc (.cells #[.slice A0 nd.pairs.length c0, .slice A1 nd.seps.length c1, .slice A2 nd.kids.length c2] 29)) wr) (fun i _ => nd.kids.length - (intOf i).toNat)
    case atStart => exact ⟨0, Nat.zero_le _, rfl, fun j h h' => absurd h' (by omega), hBB⟩
    case round =>
      clear hBB q0 q1 q2 q3 q4 q5
      obtain ⟨k, hk, rfl, hno, hB⟩ := hrel
      obtain ⟨⟨q0, q1⟩, ⟨q2, q3, q4⟩, q5⟩ := two_boxes hB
      have q6 : w.heap.size < wr.heap.size := by omega
      by_cases hlt : k < nd.kids.length
      · obtain ⟨ab, ao, rfl, hk0⟩ := kids_at (HN.out.boxes hB).kids HKK.out hlt
        have hsum := HKK.out _ (List.getElem_mem hlt)
        have hk1 : wr.rangeAt ab (ao + k * 33 + 1) (nd.kids[k].sum.map (Value.int .u8)) := fun j v hv => by
          have := hk0 (j + 1) v (by simp only [KidD.cells, List.getElem?_cons_succ]; exact hv)
          rwa [show ao + k * 33 + (j + 1) = ao + k * 33 + 1 + j by omega] at this
        have HSUM := Lib.hid hsum
        have HK1 := Lib.hid hk1
        have hki : (k : Int) < nd.kids.length := by omega
        clear hk0 hk1 hsum
        go_wp2
        cases hx : fitsB wd nd.kids[k].sum with
        | true =>
          have HX := Lib.hid hx
          clear hx
          refine wp_region_grow (by kernel_rfl) (by kernel_rfl) ?_
          repeat (any_goals (first | (refine wpQuiet_load83 (o := ⟨some 76, _, _, _, _, _⟩) rfl (.tmp 75) rfl ab _ rfl nd.kids[k].sum HSUM.out HK1.out ?_) | go_big_quiet_step ((go_at_call 111; exact quiet_below (fitsR_b wd _ _ HSUM.out (by omega) _ HX.out))) | quiet_step ((go_at_call 111; exact quiet_below (fitsR_b wd _ _ HSUM.out (by omega) _ HX.out)))))
          refine wpQuiet_nil ?_
          intro w3 hb
          go_wp2
          go_roundw
          case rel => exact ⟨k + 1, by omega, by go_num, fun j h h' => by
            by_cases e : j = k
            · subst e; exact HX.out
            · exact hno.out j h (by omega), below_s0 hB (by omega) hb⟩
          case measure => simp [intOf]; omega
        | false =>
          have HX := Lib.hid hx
          clear hx
          refine wp_region_grow (by kernel_rfl) (by kernel_rfl) ?_
          repeat (any_goals (first | (refine wpQuiet_load83 (o := ⟨some 76, _, _, _, _, _⟩) rfl (.tmp 75) rfl ab _ rfl nd.kids[k].sum HSUM.out HK1.out ?_) | go_big_quiet_step ((go_at_call 111; exact quiet_below (fitsR_b wd _ _ HSUM.out (by omega) _ HX.out))) | quiet_step ((go_at_call 111; exact quiet_below (fitsR_b wd _ _ HSUM.out (by omega) _ HX.out)))))
          refine wpQuiet_nil ?_
          intro w3 hb
          go_wp2
          go_ret
          exact ⟨ret_eq (show Value.bool false = _ by rw [HF.out]; exact congrArg Value.bool (decide_eq_false (fun h => h.2.2.2.1 ⟨_, List.getElem_mem hlt, HX.out⟩)).symm), below_s0 (below_aa (hB.mono (by simp))) (by omega) hb⟩
      · have hfin : risesB (pg / 16) nd.seps = shapedB pg wd nd := by
          rw [HF.out, risesB, Bool.eq_iff_iff, decide_eq_true_iff, decide_eq_true_iff]
          constructor
          · intro h
            refine ⟨HP.out, HK.out, HS.out, ?_, h⟩
            rintro ⟨p, hp, hv⟩
            obtain ⟨j, hj, e⟩ := List.getElem_of_mem hp
            subst e
            rw [hno.out j hj (by omega)] at hv
            cases hv
          · exact fun h => h.2.2.2.2
        have HF2 := Lib.hid hfin
        have hw := below_aa (hB.mono (by simp))
        clear hfin
        go_wp2_with (go_at_call 110; refine (keys_v A1 c1 nd.seps (pg / 16) _ (HN.out.boxes hB).seps hsl HSK.out _ HF2.out).mono ?_; rintro e w3 ⟨rfl, hb⟩)
        go_ret
        exact ⟨rfl, below_s0 hw (by omega) hb⟩

theorem shapedR_c (pg : Int) (wd : Nat) (A0 A1 A2 : Option Addr) (c0 c1 c2 : Nat) (nd : NodeD) (w : World) (hr : right pg wd = true) (hN : RdN w A0 c0 A1 c1 A2 c2 nd) (b : Bool) (hb : shapedB pg wd nd = b) :
    Calls Try.prog 91 #[vF pg wd, vN A0 c0 A1 c1 A2 c2 nd] w fun e w' => e = .returned (.bool b) ∧ Below w.heap.size w w' := by
  subst hb
  by_cases h : leafD nd
  · exact shapedR_leaf pg wd A0 A1 A2 c0 c1 c2 nd w hr hN h
  · exact shapedR_branch pg wd A0 A1 A2 c0 c1 c2 nd w hr hN h

theorem refRight_v (pg wd : Int) (w : World) (b : Bool) (hb : right pg wd = b) :
    Calls Try.prog 66 #[vF pg wd] w fun e w' => e = .returned (.bool b) ∧ Below w.heap.size w w' := by
  subst hb; exact refRight_c pg wd w

theorem checkE_right {pg : Int} {wd : Nat} {nd : NodeD} (h : right pg wd = true) : checkE pg wd nd = if shapedB pg wd nd = true then 0 else 70 := by
  simp [checkE, h, shapedB]

theorem refCheck_c (pg wd : Int) (A0 A1 A2 : Option Addr) (c0 c1 c2 : Nat) (nd : NodeD) (w : World) (hN : RdN w A0 c0 A1 c1 A2 c2 nd) :
    Calls Try.prog 69 #[vF pg wd, vN A0 c0 A1 c1 A2 c2 nd] w fun e w' => e = .returned (.int .i64 (checkE pg wd nd)) ∧ Below w.heap.size w w' := by
  have HN := Lib.hid hN
  clear hN
  cases hr : right pg wd with
  | false =>
    have HR := Lib.hid hr
    clear hr
    go_enter Try.func69, Try.ntmps69
    go_wp2_with (go_at_call 66; refine (refRight_v pg wd _ _ HR.out).mono ?_; rintro e w1 ⟨rfl, hb⟩)
    go_ret
    exact ⟨ret_eq (show Value.int IntKind.i64 2 = _ by simp [checkE, HR.out]), below_aa hb⟩
  | true =>
    obtain ⟨wn, rfl⟩ : ∃ n : Nat, wd = n := ⟨wd.toNat, by have := right_spec hr; omega⟩
    have HR := Lib.hid hr
    have HC := Lib.hid (checkE_right (nd := nd) hr)
    clear hr
    cases hs : shapedB pg wn nd
    all_goals
      have HS := Lib.hid hs
      clear hs
      go_enter Try.func69, Try.ntmps69
      go_wp2_with (first
        | (go_at_call 66; refine (refRight_v pg wn _ _ HR.out).mono ?_; rintro e w1 ⟨rfl, hb⟩; have hBB := below_first hb; clear hb; obtain ⟨⟨q0, q1⟩, ⟨q2, q3, q4⟩, q5⟩ := two_boxes hBB)
        | (go_at_call 91; refine (shapedR_c pg wn A0 A1 A2 c0 c1 c2 nd _ HR.out (HN.out.boxes hBB) _ HS.out).mono ?_; rintro e w2 ⟨rfl, hb⟩))
      go_ret
      exact ⟨ret_eq (by rw [HC.out, HS.out]; rfl), below_s0 (below_aa (hBB.mono (by simp))) (by omega) hb⟩

theorem refCheck_v (pg wd : Int) (A0 A1 A2 : Option Addr) (c0 c1 c2 : Nat) (nd : NodeD) (w : World) (hN : RdN w A0 c0 A1 c1 A2 c2 nd) (v : Int) (hv : checkE pg wd nd = v) :
    Calls Try.prog 69 #[vF pg wd, vN A0 c0 A1 c1 A2 c2 nd] w fun e w' => e = .returned (.int .i64 v) ∧ Below w.heap.size w w' := by
  subst hv; exact refCheck_c pg wd A0 A1 A2 c0 c1 c2 nd w hN

end Go.Proofs.Ytajkoeodabmgeaa
