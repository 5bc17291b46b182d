import Derived.Test.YtajkoeodabmgeaaZ7
import Derived.Test.YtajkoeodabmgeaaZ6
import Derived.Test.YtajkoeodabmgeaaZ5

section
namespace Go.Proofs.Ytajkoeodabmgeaa
open Go.RowKit
set_option maxHeartbeats 2000000
set_option maxRecDepth 100000

def isK (key : ByteArray) (p : PairD) : Bool := p.k.toList == key.toList
/-- A leaf's pairs without those of a key; were there any? -/
def wo (key : ByteArray) (l : List PairD) : List PairD := l.filter (fun p => !isK key p)
def woB (key : ByteArray) (l : List PairD) : Bool := l.any (isK key)
theorem wo_snoc (key : ByteArray) (l : List PairD) (p : PairD) : wo key (l ++ [p]) = if isK key p then wo key l else wo key l ++ [p] := by
  unfold wo
  rw [List.filter_append]
  cases h : isK key p <;> simp [h]
theorem woB_snoc (key : ByteArray) (l : List PairD) (p : PairD) : woB key (l ++ [p]) = (woB key l || isK key p) := by simp [woB]
theorem take_snoc {α : Type} (l : List α) (k : Nat) (h : k < l.length) : l.take (k + 1) = l.take k ++ [l[k]] := by rw [List.take_append_getElem h]
theorem wo_len (key : ByteArray) (l : List PairD) : (wo key l).length ≤ l.length := List.length_filter_le _ _

theorem without_c (A0 A1 A2 : Option Addr) (c0 c1 c2 : Nat) (nd : NodeD) (key : ByteArray) (w : World) (hN : RdN w A0 c0 A1 c1 A2 c2 nd) :
    Calls Try.prog 68 #[vN A0 c0 A1 c1 A2 c2 nd, .string key] w fun e w' => ∃ B0 d0, e = .returned (.tuple #[vN B0 d0 none 0 none 0 ⟨wo key nd.pairs, [], []⟩, .bool (woB key nd.pairs)]) ∧
      OwN w' w.heap.size w'.heap.size B0 d0 none 0 none 0 ⟨wo key nd.pairs, [], []⟩ ∧ Below w.heap.size w w' := by
  obtain ⟨i0, hi0, hz0, hz1, hz2⟩ := info_parts info31
  have HN := Lib.hid hN
  have hp := hN.hp
  have HLEN : Hid (∀ k, k < nd.pairs.length → ((wo key (nd.pairs.take k)).length + 1) * 32 ≤ 140737488355328) := fun k hk => Nat.le_trans (Nat.mul_le_mul_right 32 (by have := wo_len key (nd.pairs.take k); rw [List.length_take] at this; omega : (wo key (nd.pairs.take k)).length + 1 ≤ nd.pairs.length)) hp
  clear hN
  go_enter Try.func68, Try.ntmps68
  go_wp2
  have hL0 : LS (fun _ => False) (cW w (.slice A0 nd.pairs.length c0) (.slice A1 nd.seps.length c1) (.slice A2 nd.kids.length c2)) ((cW w (.slice A0 nd.pairs.length c0) (.slice A1 nd.seps.length c1) (.slice A2 nd.kids.length c2)).alloc (.cells #[.slice none 0 0, .slice none 0 0, .slice none 0 0] 29)) (w.heap.size + 1 + 1) (w.heap.size + 1 + 1) (.slice none (wo key (nd.pairs.take 0)).length 0) (.slice none 0 0) (.slice none 0 0) (wo key (nd.pairs.take 0)).length 0 0 (pcells (wo key (nd.pairs.take 0))) [] [] :=
    ⟨alloc3_at w _ _ _, World.ownsRow_nil _ _ _ _, World.ownsRow_nil _ _ _ _, World.ownsRow_nil _ _ _ _, by simp [cW], (Kept.refl _ _).alloc _, fun k hk => by simp [Value.ownBlock] at hk, fun k hk => by simp [Value.ownBlock] at hk, fun k hk => by simp [Value.ownBlock] at hk, .inr (by simp [cW])⟩
  have HL0 := Lib.hid hL0
  clear hL0
  go_loopw [7, 8] (fun o i wr => ∃ k : Nat, k ≤ nd.pairs.length ∧ o = .bool (woB key (nd.pairs.take k)) ∧ i = .int .i64 k ∧ (∃ B0 d0, Hid (LS (fun _ => False) (cW w (.slice A0 nd.pairs.length c0) (.slice A1 nd.seps.length c1) (.slice A2 nd.kids.length c2)) wr (w.heap.size + 1 + 1) (w.heap.size + 1 + 1) (.slice B0 (wo key (nd.pairs.take k)).length d0) (.slice none 0 0) (.slice none 0 0) (wo key (nd.pairs.take k)).length 0 0 (pcells (wo key (nd.pairs.take k))) [] []))) (fun _ i _ => nd.pairs.length - (intOf i).toNat)
  case atStart => exact ⟨0, Nat.zero_le _, rfl, rfl, _, _, HL0⟩
  case round =>
    clear HL0
    obtain ⟨k, hk, rfl, rfl, B0, d0, HL⟩ := hrel
    have hbw : Below (w.heap.size + 1 + 1) (cW w (.slice A0 nd.pairs.length c0) (.slice A1 nd.seps.length c1) (.slice A2 nd.kids.length c2)) wr := HL.out.kp.below (by simp [cW]) (fun _ _ h => h)
    have hS1 : Box (w.heap.size + 1) 3 29 (cW w (.slice A0 nd.pairs.length c0) (.slice A1 nd.seps.length c1) (.slice A2 nd.kids.length c2)) wr := ⟨hbw.mono (by omega), _, (hbw.block _ (by omega)).trans (alloc2_at w _ _), rfl⟩
    obtain ⟨q0, q1, q2⟩ := cW_cells hS1
    obtain ⟨⟨q3, q4, q5⟩, q6, q7, q8⟩ := box_facts HL.out.box
    by_cases hlt : k < nd.pairs.length
    · obtain ⟨ab, ao, rfl, hk0, hk1⟩ := pairs_at (HN.out.below (cW_below rfl hS1)).pairs hlt
      have hki : (k : Int) < nd.pairs.length := by omega
      have e1 := wo_snoc key (nd.pairs.take k) nd.pairs[k]
      have e2 := woB_snoc key (nd.pairs.take k) nd.pairs[k]
      rw [← take_snoc _ _ hlt] at e1 e2
      cases hc : isK key nd.pairs[k] with
      | true =>
        have hcc : (nd.pairs[k].k.toList == key.toList) = true := hc
        rw [hc, if_pos rfl] at e1
        rw [hc, Bool.or_true] at e2
        have E1 := Lib.hid e1
        have E2 := Lib.hid e2
        clear e1 e2 hc
        go_wp2
        go_roundw
        case rel => exact ⟨k + 1, by omega, by rw [E2.out], by go_num, B0, d0, by rw [E1.out]; exact HL⟩
        case measure => simp [intOf]; omega
      | false =>
        have hcc : (nd.pairs[k].k.toList == key.toList) = false := hc
        rw [hc, if_neg (by decide)] at e1
        rw [hc, Bool.or_false] at e2
        have E1 := Lib.hid e1
        have E2 := Lib.hid e2
        clear e1 e2 hc
        go_wp2
        have hab : ab < w.heap.size := by
          obtain ⟨b, o, e, hcell⟩ := HN.out.pairs.2 (by omega)
          cases e
          have hg := pairs_at HN.out.pairs hlt
          obtain ⟨_, _, e, h1, _⟩ := hg
          cases e
          exact World.block_lt_of_cell? _ _ h1
        have HF : Hid (∀ W, Below (w.heap.size + 1 + 1) (cW w (.slice (some ⟨ab, ao, none⟩) nd.pairs.length c0) (.slice A1 nd.seps.length c1) (.slice A2 nd.kids.length c2)) W → (W.cell? ⟨w.heap.size, 0, none⟩ = some (.slice (some ⟨ab, ao, none⟩) nd.pairs.length c0)) ∧ W.cell? ⟨ab, ao + k * 2, none⟩ = some (.string nd.pairs[k].k) ∧ W.cell? ⟨ab, ao + k * 2 + 1, none⟩ = some (.string nd.pairs[k].v)) := by
          have h3 : wr.cell? ⟨ab, ao + k * 2, none⟩ = (cW w (.slice (some ⟨ab, ao, none⟩) nd.pairs.length c0) (.slice A1 nd.seps.length c1) (.slice A2 nd.kids.length c2)).cell? ⟨ab, ao + k * 2, none⟩ := hbw.cell (p := ⟨ab, ao + k * 2, none⟩) (by show ab < _; omega)
          have h4 : wr.cell? ⟨ab, ao + k * 2 + 1, none⟩ = (cW w (.slice (some ⟨ab, ao, none⟩) nd.pairs.length c0) (.slice A1 nd.seps.length c1) (.slice A2 nd.kids.length c2)).cell? ⟨ab, ao + k * 2 + 1, none⟩ := hbw.cell (p := ⟨ab, ao + k * 2 + 1, none⟩) (by show ab < _; omega)
          have h5 : wr.cell? ⟨w.heap.size, 0, none⟩ = (cW w (.slice (some ⟨ab, ao, none⟩) nd.pairs.length c0) (.slice A1 nd.seps.length c1) (.slice A2 nd.kids.length c2)).cell? ⟨w.heap.size, 0, none⟩ := hbw.cell (p := ⟨w.heap.size, 0, none⟩) (by show w.heap.size < _; omega)
          intro W hW
          exact ⟨(hW.cell (p := ⟨w.heap.size, 0, none⟩) (by show w.heap.size < _; omega)).trans (h5.symm.trans q0), (hW.cell (p := ⟨ab, ao + k * 2, none⟩) (by show ab < _; omega)).trans (h3.symm.trans hk0), (hW.cell (p := ⟨ab, ao + k * 2 + 1, none⟩) (by show ab < _; omega)).trans (h4.symm.trans hk1)⟩
        have HA0 := Lib.hid ((HL.out.below (Below.refl _ _).drew).alloc (.cells #[.string nd.pairs[k].k, .string nd.pairs[k].v] 31))
        refine wp_region_tree (S := Below (w.heap.size + 1 + 1) (cW w (.slice (some ⟨ab, ao, none⟩) nd.pairs.length c0) (.slice A1 nd.seps.length c1) (.slice A2 nd.kids.length c2))) (.take 0 (.take 2 (.take 3 (.take 4 (.take 5 (.take 6 (.two 1 7 (.run 7 (.run 8 (.take 9 (.run 10 .done)))) (.run 1 (.run 8 (.take 9 (.run 10 .done)))))))))))
          (by kernel_rfl) (by kernel_rfl) (by kernel_rfl) (fun _ _ d _ _ h => by cases d <;> exact h) hbw.drew ?_
        repeat (apply tree_take; (exact rfl); rfl; (intro W hW; obtain ⟨z0, z1, z2⟩ := HF.out W hW; go_simp; (try with_reducible rfl)); simp only [Act.put, List.setIfInBounds_toArray, List.set_cons_zero, List.set_cons_succ])
        have y0 : w.heap.size + 1 + 1 < wr.heap.size := HL.out.lt
        have hba := hbw.drew.alloc (Nat.le_of_lt y0) (.cells #[.string nd.pairs[k].k, .string nd.pairs[k].v] 31)
        refine tree_two ?_ ?_
        rotate_left
        apply tree_run; (exact rfl); rfl; intro K hK; go_simp
        refine hK.out _ _ hba (fun _ => ?_)
        clear hK K
        try simp only [Act.put, List.setIfInBounds_toArray, List.set_cons_zero, List.set_cons_succ]
        apply tree_run; (exact rfl); rfl; intro K hK; go_simp
        refine hK.out _ _ hba (fun _ => ?_)
        clear hK K
        try simp only [Act.put, List.setIfInBounds_toArray, List.set_cons_zero, List.set_cons_succ]
        rotate_left
        apply tree_run; (exact rfl); rfl; intro K hK; go_simp
        refine hK.out _ _ hbw.drew (fun _ => ?_)
        clear hK K
        try simp only [Act.put, List.setIfInBounds_toArray, List.set_cons_zero, List.set_cons_succ]
        apply tree_run; (exact rfl); rfl; intro K hK; go_simp
        refine hK.out _ _ hba (fun _ => ?_)
        clear hK K
        try simp only [Act.put, List.setIfInBounds_toArray, List.set_cons_zero, List.set_cons_succ]
        all_goals
          apply tree_run; (exact rfl); rfl; intro K hK
          refine wp_append_rd (.tmp 25) (.tmp 31) 25 rfl (w.heap.size + 1 + 1) 31 Try.underlying25 hi0 hz0 hz1 hz2 rfl (by decide) rfl HA0.out.r0 rfl (one_pair' wr.drew nd.pairs[k] _ rfl) (pc1 [nd.pairs[k]]) (HLEN.out k hlt) (by decide) HA0.out.hb ?_
          intro v1 w2 hown hg hx
          obtain ⟨E0, f0, rfl, _, _⟩ := own_rd hown
          have HA1 := Lib.hid (HA0.out.app0 hown hg hx.1)
          obtain ⟨⟨x0, x1, x2⟩, x3, x4, x5⟩ := box_facts (HA0.out.mid0 hg)
          have hb2 := hba.grown hg (HA0.out.hb) (fun k e => (HA0.out.r0.lt k e).1)
          refine hK.out _ _ hb2 (fun _ => ?_)
          clear hK K hown hg hx
          try simp only [Act.put, List.setIfInBounds_toArray, List.set_cons_zero, List.set_cons_succ]
          apply tree_take; (exact rfl); rfl; (intro W hW; go_simp; (try with_reducible rfl)); simp only [Act.put, List.setIfInBounds_toArray, List.set_cons_zero, List.set_cons_succ]
          apply tree_run; (exact rfl); rfl; intro K hK; go_simp
          refine hK.out _ _ (hb2.setCell (p := ⟨w.heap.size + 1 + 1, 0, none⟩) (Nat.le_refl _) _) (fun _ => ?_)
          clear hK K
          refine tree_done ?_
          go_wp2
          go_roundw
          case rel =>
            refine ⟨k + 1, by omega, by rw [E2.out], by go_num, E0, f0, ?_⟩
            rw [E1.out, pcells_append, List.length_append]
            exact HA1
          case measure => simp [intOf]; omega
    · obtain rfl : k = nd.pairs.length := by omega
      have hlt' : ¬ (((nd.pairs.length : Nat) : Int) < nd.pairs.length) := by omega
      rw [List.take_of_length_le (Nat.le_refl _)] at HL
      have hg := HL.out.box
      rw [List.take_of_length_le (Nat.le_refl _)]
      obtain ⟨⟨q3, q4, q5⟩, q6, q7, q8⟩ := box_facts hg
      obtain ⟨old, hrow, hsz⟩ := hS1.2
      have HPK := Lib.hid HN.out.pk
      go_wp2_with (first
        | (refine wpList_store_row rfl 29 (.tmp 4) (.tmp 34) rfl (w.heap.size + 1) #[.slice B0 (wo key nd.pairs).length d0, .slice none 0 0, .slice none 0 0] rfl rfl 29 old hrow info29' hsz (sl3_one _ _ _ _ _ _ _ _ _) ?_))
      refine bodyPost_ret (results_ct rfl _ _ (w.heap.size + 1) 29 #[.slice B0 (wo key nd.pairs).length d0, .slice none 0 0, .slice none 0 0] (0, 0) _ rfl (setRow_block _ _ _ _ _ _ hrow) Try.underlying29 rfl info29') rfl ?_
      have hl := wo_len key nd.pairs
      refine ⟨B0, d0, rfl, ?_, below_setRow (cW_below rfl hS1) (by omega) _⟩
      exact (((OwN.leaf HL.out.r0 (Nat.le_refl _) (by omega) (fun q hq => HPK.out q (List.mem_filter.1 hq |>.1)))).setRow _ _ (by omega)).wide (by omega) (by simp [World.setRow])

end Go.Proofs.Ytajkoeodabmgeaa
end

section
namespace Go.Proofs.Ytajkoeodabmgeaa
open Go.RowKit
set_option maxHeartbeats 2000000
set_option maxRecDepth 100000

theorem refLeaf_v (pg wd : Int) (A0 A1 A2 : Option Addr) (c0 c1 c2 : Nat) (nd : NodeD) (w : World) (hN : RdN w A0 c0 A1 c1 A2 c2 nd) (b : Bool) (hb : leafB pg wd nd = b) :
    Calls Try.prog 67 #[vF pg wd, vN A0 c0 A1 c1 A2 c2 nd] w fun e w' => e = .returned (.bool b) ∧ Below w.heap.size w w' := by
  subst hb; exact refLeafK_c pg wd A0 A1 A2 c0 c1 c2 nd w hN
theorem refFrame_v (pg wd : Int) (w : World) (b : Bool) (hb : right pg wd = b) :
    Calls Try.prog 66 #[vF pg wd] w fun e w' => e = .returned (.bool b) ∧ Below w.heap.size w w' := by
  subst hb; exact refRight_c pg wd w

theorem refPut_wrong (pg wd : Int) (A0 A1 A2 : Option Addr) (c0 c1 c2 : Nat) (nd : NodeD) (p : PairD) (w : World) (hr : right pg wd = false) :
    Calls Try.prog 23 #[vF pg wd, vN A0 c0 A1 c1 A2 c2 nd, vP p] w fun e w' =>
      ∃ B0 d0, e = .returned (.tuple #[vN B0 d0 none 0 none 0 (putR pg wd nd p), .bool (putB pg wd nd p), .int .i64 (putE pg wd nd p)]) ∧
        OwN w' w.heap.size w'.heap.size B0 d0 none 0 none 0 (putR pg wd nd p) ∧ Below w.heap.size w w' := by
  have hE : putE pg wd nd p = 2 := by simp [putE, hr]
  have HE := Lib.hid hE
  have HR := Lib.hid hr
  clear hE hr
  go_enter Try.func23, Try.ntmps23
  go_wp2_with (first
    | (go_at_call 66; refine (refFrame_v pg wd _ _ HR.out).mono ?_; rintro e w1 ⟨rfl, hb⟩; have hBB := put_first hb; clear hb; obtain ⟨⟨q0, q1⟩, ⟨q2, q3, q4⟩, q5, q6⟩ := put_boxes hBB; have q7 := put_lt hBB; have HG := Lib.hid (put_row hBB))
    | (refine wpList_store_row rfl 29 (.tmp 6) (.tmp 17) rfl (w.heap.size + 1 + 1 + 1) #[.slice none 0 0, .slice none 0 0, .slice none 0 0] rfl rfl 29 _ HG.out info29' rfl (sl3_one _ _ _ _ _ _ _ _ _) ?_))
  refine bodyPost_ret (results_ctt rfl _ _ (w.heap.size + 1 + 1 + 1) 29 #[.slice none 0 0, .slice none 0 0, .slice none 0 0] (0, 0) _ rfl (setRow_block _ _ _ _ _ _ HG.out) Try.underlying29 rfl info29') rfl ?_
  exact put_err w _ pg wd nd p 2 HE.out (by decide) (below_setRow (put_below hBB) (by omega) _)

theorem refPut_unshaped (pg wd : Int) (A0 A1 A2 : Option Addr) (c0 c1 c2 : Nat) (nd : NodeD) (p : PairD) (w : World) (hN : RdN w A0 c0 A1 c1 A2 c2 nd) (hr : right pg wd = true) (hl : leafB pg wd nd = false) :
    Calls Try.prog 23 #[vF pg wd, vN A0 c0 A1 c1 A2 c2 nd, vP p] w fun e w' =>
      ∃ B0 d0, e = .returned (.tuple #[vN B0 d0 none 0 none 0 (putR pg wd nd p), .bool (putB pg wd nd p), .int .i64 (putE pg wd nd p)]) ∧
        OwN w' w.heap.size w'.heap.size B0 d0 none 0 none 0 (putR pg wd nd p) ∧ Below w.heap.size w w' := by
  have hE : putE pg wd nd p = 80 := by simp [putE, hr, hl]
  have HE := Lib.hid hE
  have HR := Lib.hid hr
  have HL := Lib.hid hl
  have HN := Lib.hid hN
  clear hE hr hl hN
  go_enter Try.func23, Try.ntmps23
  go_wp2_with (first
    | (go_at_call 66; refine (refFrame_v pg wd _ _ HR.out).mono ?_; rintro e w1 ⟨rfl, hb⟩; have hBB := put_first hb; clear hb; obtain ⟨⟨q0, q1⟩, ⟨q2, q3, q4⟩, q5, q6⟩ := put_boxes hBB; have q7 := put_lt hBB)
    | (go_at_call 67; refine (refLeaf_v pg wd A0 A1 A2 c0 c1 c2 nd _ (HN.out.put hBB) _ HL.out).mono ?_; rintro e w2 ⟨rfl, hb⟩; have hBB2 := put_next hBB hb; clear hb q0 q1 q2 q3 q4 q5 q6 q7 hBB; have q7 := put_lt hBB2; have HG := Lib.hid (put_row hBB2))
    | (refine wpList_store_row rfl 29 (.tmp 6) (.tmp 22) rfl (w.heap.size + 1 + 1 + 1) #[.slice none 0 0, .slice none 0 0, .slice none 0 0] rfl rfl 29 _ HG.out info29' rfl (sl3_one _ _ _ _ _ _ _ _ _) ?_))
  refine bodyPost_ret (results_ctt rfl _ _ (w.heap.size + 1 + 1 + 1) 29 #[.slice none 0 0, .slice none 0 0, .slice none 0 0] (0, 0) _ rfl (setRow_block _ _ _ _ _ _ HG.out) Try.underlying29 rfl info29') rfl ?_
  exact put_err w _ pg wd nd p 80 HE.out (by decide) (below_setRow (put_below hBB2) (by omega) _)

theorem empty_size (k : ByteArray) : (k.toList == []) = decide ((k.size : Int) < 1) := by
  rw [toList_data]
  cases h : k.data.toList with
  | nil =>
    have : k.size = 0 := by have := congrArg List.length h; simpa using this
    simp [this]
  | cons a l =>
    have : k.size = l.length + 1 := by have := congrArg List.length h; simpa using this
    simp [this]; omega

theorem refPut_arg (pg wd : Int) (A0 A1 A2 : Option Addr) (c0 c1 c2 : Nat) (nd : NodeD) (p : PairD) (w : World) (hN : RdN w A0 c0 A1 c1 A2 c2 nd) (hr : right pg wd = true) (hl : leafB pg wd nd = true) (hp : putP pg p = false) :
    Calls Try.prog 23 #[vF pg wd, vN A0 c0 A1 c1 A2 c2 nd, vP p] w fun e w' =>
      ∃ B0 d0, e = .returned (.tuple #[vN B0 d0 none 0 none 0 (putR pg wd nd p), .bool (putB pg wd nd p), .int .i64 (putE pg wd nd p)]) ∧
        OwN w' w.heap.size w'.heap.size B0 d0 none 0 none 0 (putR pg wd nd p) ∧ Below w.heap.size w w' := by
  have hE : putE pg wd nd p = 2 := by simp [putE, hr, hl, hp]
  have HE := Lib.hid hE
  have hrs := right_spec hr
  have HR := Lib.hid hr
  have HL := Lib.hid hl
  have HN := Lib.hid hN
  have h0 : 0 ≤ pg := by omega
  have h1 : pg ≤ 8192 := by omega
  have hq : decide ((p.k.size : Int) < 1) = true ∨ (decide ((p.k.size : Int) < 1) = false ∧ (pg / 16 < (p.k.size : Int) ∨ (¬ pg / 16 < (p.k.size : Int) ∧ pg / 8 < (p.v.size : Int)))) := by
    simp only [putP, empty_size, Bool.and_eq_false_iff, Bool.not_eq_false', decide_eq_false_iff_not, decide_eq_true_eq] at hp
    simp only [decide_eq_true_eq, decide_eq_false_iff_not]
    omega
  clear hE hr hl hN hp
  rcases hq with k1 | ⟨k1, k2 | ⟨k2, k3⟩⟩
  all_goals
    go_enter Try.func23, Try.ntmps23
    go_wp2_with (first
      | (go_at_call 66; refine (refFrame_v pg wd _ _ HR.out).mono ?_; rintro e w1 ⟨rfl, hb⟩; have hBB := put_first hb; clear hb; obtain ⟨⟨q0, q1⟩, ⟨q2, q3, q4⟩, q5, q6⟩ := put_boxes hBB; have q7 := put_lt hBB)
      | (go_at_call 67; refine (refLeaf_v pg wd A0 A1 A2 c0 c1 c2 nd _ (HN.out.put hBB) _ HL.out).mono ?_; rintro e w2 ⟨rfl, hb⟩; have hBB2 := put_next hBB hb; clear hb q0 q1 q2 q3 q4 q5 q6 q7 hBB; obtain ⟨⟨q0, q1⟩, ⟨q2, q3, q4⟩, q5, q6⟩ := put_boxes hBB2; have q7 := put_lt hBB2; have HG := Lib.hid (put_row hBB2))
      | (refine wpList_store_row rfl 29 (.tmp 6) (.tmp 45) rfl (w.heap.size + 1 + 1 + 1) #[.slice none 0 0, .slice none 0 0, .slice none 0 0] rfl rfl 29 _ HG.out info29' rfl (sl3_one _ _ _ _ _ _ _ _ _) ?_))
    refine bodyPost_ret (results_ctt rfl _ _ (w.heap.size + 1 + 1 + 1) 29 #[.slice none 0 0, .slice none 0 0, .slice none 0 0] (0, 0) _ rfl (setRow_block _ _ _ _ _ _ HG.out) Try.underlying29 rfl info29') rfl ?_
    exact put_err w _ pg wd nd p 2 HE.out (by decide) (below_setRow (put_below hBB2) (by omega) _)

end Go.Proofs.Ytajkoeodabmgeaa
end

section
namespace Go.Proofs.Ytajkoeodabmgeaa
open Go.RowKit
set_option maxHeartbeats 2000000
set_option maxRecDepth 100000
attribute [local go_sem] grow_cell grow_frozen grow_size

/-- How many pairs stand ahead of a pair that is put in. -/
def insJ (p : PairD) (L : List PairD) : Nat := cntW (fun q => !bl p.k q.k) L
def outK (p : PairD) (L : List PairD) (k : Nat) : List PairD := if insJ p L < k then L.take (insJ p L) ++ [p] ++ (L.take k).drop (insJ p L) else L.take k

theorem outK_step {p : PairD} {L : List PairD} {k : Nat} (hk : k < L.length) (h : k ≠ insJ p L) : outK p L k ++ [L[k]] = outK p L (k + 1) := by
  unfold outK
  by_cases h1 : insJ p L < k
  · rw [if_pos h1, if_pos (by omega), take_snoc _ _ hk, List.drop_append_of_le_length (by rw [List.length_take]; omega)]
    simp
  · rw [if_neg h1, if_neg (by omega), take_snoc _ _ hk]
theorem outK_put {p : PairD} {L : List PairD} (hk : insJ p L < L.length) : outK p L (insJ p L) ++ [p] ++ [L[insJ p L]] = outK p L (insJ p L + 1) := by
  unfold outK
  rw [if_neg (by omega), if_pos (by omega), take_snoc _ _ hk, List.drop_append_of_le_length (by rw [List.length_take]; omega)]
  simp
theorem outK_len (p : PairD) (L : List PairD) (k : Nat) : (outK p L k).length ≤ k + 1 := by
  unfold outK
  split
  · simp; omega
  · rw [List.length_take]; omega
theorem outK_end (p : PairD) (L : List PairD) : (if insJ p L < L.length then outK p L L.length else outK p L L.length ++ [p]) = L.take (insJ p L) ++ [p] ++ L.drop (insJ p L) := by
  have hle : insJ p L ≤ L.length := cntW_le _ _
  unfold outK
  by_cases h : insJ p L < L.length
  · rw [if_pos h, if_pos h, List.take_of_length_le (Nat.le_refl L.length)]
  · rw [if_neg h, if_neg h]
    have : insJ p L = L.length := by omega
    rw [this]; simp

theorem wo_ne {key : ByteArray} {l : List PairD} {k : Nat} (h : k < (wo key l).length) : ((wo key l)[k].k.toList == key.toList) = false := by
  have := (List.mem_filter.1 (List.getElem_mem h)).2
  simpa [isK] using this

theorem insJ_lo {p : PairD} {L : List PairD} {k : Nat} (hk : k < L.length) (h : k < insJ p L) (hne : (L[k].k.toList == p.k.toList) = false) : Op.bytesLess L[k].k.toList p.k.toList = true := by
  have h1 := cntW_yes (fun q : PairD => !bl p.k q.k) L k hk h
  simp only [Bool.not_eq_true'] at h1
  rcases lt_total L[k].k.toList p.k.toList with e | e | e
  · exact e
  · rw [e] at hne; simp at hne
  · rw [show bl p.k L[k].k = true from e] at h1; cases h1
theorem insJ_at {p : PairD} {L : List PairD} (h : insJ p L < L.length) : Op.bytesLess L[insJ p L].k.toList p.k.toList = false := by
  have h1 := cntW_no (fun q : PairD => !bl p.k q.k) L h
  simp only [Bool.not_eq_false'] at h1
  exact lt_asymm h1

end Go.Proofs.Ytajkoeodabmgeaa
end

section
namespace Go.Proofs.Ytajkoeodabmgeaa
open Go.RowKit
set_option maxHeartbeats 2000000
set_option maxRecDepth 100000
attribute [local go_sem] grow_cell grow_frozen grow_size

theorem refPut_ok (pg wd : Int) (A0 A1 A2 : Option Addr) (c0 c1 c2 : Nat) (nd : NodeD) (p : PairD) (w : World) (hN : RdN w A0 c0 A1 c1 A2 c2 nd) (hr : right pg wd = true) (hl : leafB pg wd nd = true) (hp : putP pg p = true)
    (hroom : (nd.pairs.length + 1) * 32 ≤ 140737488355328) (hpp : p.k.size ≤ 140737488355328 ∧ p.v.size ≤ 140737488355328)
    (hF : (wo p.k nd.pairs).take (insJ p (wo p.k nd.pairs)) ++ [p] ++ (wo p.k nd.pairs).drop (insJ p (wo p.k nd.pairs)) = (putN nd p).pairs) (hB : woB p.k nd.pairs = findB nd.pairs p.k) :
    Calls Try.prog 23 #[vF pg wd, vN A0 c0 A1 c1 A2 c2 nd, vP p] w fun e w' =>
      ∃ B0 d0, e = .returned (.tuple #[vN B0 d0 none 0 none 0 (putR pg wd nd p), .bool (putB pg wd nd p), .int .i64 (putE pg wd nd p)]) ∧
        OwN w' w.heap.size w'.heap.size B0 d0 none 0 none 0 (putR pg wd nd p) ∧ Below w.heap.size w w' := by
  obtain ⟨i0, hi0, hz0, hz1, hz2⟩ := info_parts info31
  have hE : putE pg wd nd p = 0 := by simp [putE, hr, hl, hp]
  have HE := Lib.hid hE
  have hrs := right_spec hr
  have HR := Lib.hid hr
  have HL := Lib.hid hl
  have HN := Lib.hid hN
  have HPP := Lib.hid hpp
  have HB := Lib.hid hB
  have HF := Lib.hid hF
  have h0 : 0 ≤ pg := by omega
  have h1 : pg ≤ 8192 := by omega
  have hps : decide ((p.k.size : Int) < 1) = false ∧ ((pg / 16 < (p.k.size : Int)) ↔ False) ∧ ((pg / 8 < (p.v.size : Int)) ↔ False) := by
    simp only [putP, empty_size, Bool.and_eq_true, Bool.not_eq_true', decide_eq_true_eq] at hp
    exact ⟨hp.1.1, iff_false_intro (by omega), iff_false_intro (by omega)⟩
  obtain ⟨k1, k2, k3⟩ := hps
  have k1' : ¬ ((p.k.size : Int) < 1) := of_decide_eq_false k1
  have HLEN : Hid (∀ k, k ≤ (wo p.k nd.pairs).length → ∀ X : List PairD, X.length ≤ k → (X.length + 1) * 32 ≤ 140737488355328) := fun k hk X hX => Nat.le_trans (Nat.mul_le_mul_right 32 (by have := wo_len p.k nd.pairs; omega : X.length + 1 ≤ nd.pairs.length + 1)) hroom
  have hroomH := Lib.hid hroom
  clear hE hr hl hN hp hpp hF hB hroom k1
  go_enter Try.func23, Try.ntmps23
  go_wp2_with (first
    | (go_at_call 66; refine (refFrame_v pg wd _ _ HR.out).mono ?_; rintro e w1 ⟨rfl, hb⟩; have hBB := put_first hb; clear hb; obtain ⟨⟨q0, q1⟩, ⟨q2, q3, q4⟩, q5, q6⟩ := put_boxes hBB; have q7 := put_lt hBB)
    | (go_at_call 67; refine (refLeaf_v pg wd A0 A1 A2 c0 c1 c2 nd _ (HN.out.put hBB) _ HL.out).mono ?_; rintro e w2 ⟨rfl, hb⟩; have hBB2 := put_next hBB hb; clear hb q0 q1 q2 q3 q4 q5 q6 q7 hBB; obtain ⟨⟨q0, q1⟩, ⟨q2, q3, q4⟩, q5, q6⟩ := put_boxes hBB2; have q7 := put_lt hBB2)
    | (go_at_call 68; refine (without_c A0 A1 A2 c0 c1 c2 nd p.k _ (HN.out.put hBB2)).mono ?_; rintro e w3 ⟨C0, e0, rfl, hown, hb⟩; have hBB3 := put_next hBB2 hb; have HO := Lib.hid hown; clear hown; have SZ : Hid (w.heap.size + 4 ≤ w2.heap.size ∧ w2.heap.size ≤ w3.heap.size) := ⟨by have := put_lt hBB2; omega, hb.size⟩; clear hb q0 q1 q2 q3 q4 q5 q6 q7 hBB2))
  obtain ⟨L, hL⟩ : ∃ L, L = wo p.k nd.pairs := ⟨_, rfl⟩
  have HWO : Hid (∀ k (h : k < L.length), (L[k].k.toList == p.k.toList) = false) := by subst hL; exact fun k h => wo_ne h
  have LB : Hid (L.length ≤ 4398046511104) := by subst hL; have := HLEN.out _ (Nat.le_refl _) (wo p.k nd.pairs) (Nat.le_refl _); simp only [Hid]; omega
  have HLL : Hid (∀ q ∈ L, q.k.size ≤ 140737488355328 ∧ q.v.size ≤ 140737488355328) := by subst hL; exact fun q hq => HN.out.pk q (List.mem_filter.1 hq).1
  rw [← hL] at HLEN HO HF
  simp only [← hL]
  clear hL
  have hsz2 : w.heap.size + 4 ≤ w2.heap.size ∧ w2.heap.size ≤ w3.heap.size := SZ.out
  have hM0 : Below (w3.heap.size + 1) (w3.alloc (.cells #[.slice C0 L.length e0, .slice none 0 0, .slice none 0 0] 29)) ((w3.alloc (.cells #[.slice C0 L.length e0, .slice none 0 0, .slice none 0 0] 29)).alloc (.cells #[.slice none 0 0, .slice none 0 0, .slice none 0 0] 29)) := (Below.refl _ _).alloc (by simp) _
  have hL0 : LS (fun _ => False) (w3.alloc (.cells #[.slice C0 L.length e0, .slice none 0 0, .slice none 0 0] 29)) ((w3.alloc (.cells #[.slice C0 L.length e0, .slice none 0 0, .slice none 0 0] 29)).alloc (.cells #[.slice none 0 0, .slice none 0 0, .slice none 0 0] 29)) (w3.heap.size + 1) (w3.heap.size + 1) (.slice none (outK p L 0).length 0) (.slice none 0 0) (.slice none 0 0) (outK p L 0).length 0 0 (pcells (outK p L 0)) [] [] := by
    have e : outK p L 0 = [] := by simp [outK]
    rw [e]
    exact ⟨alloc2_at w3 _ _, World.ownsRow_nil _ _ _ _, World.ownsRow_nil _ _ _ _, World.ownsRow_nil _ _ _ _, by simp, (Kept.refl _ _).alloc _, fun k hk => by simp [Value.ownBlock] at hk, fun k hk => by simp [Value.ownBlock] at hk, fun k hk => by simp [Value.ownBlock] at hk, .inr (by simp)⟩
  have HL0 := Lib.hid hL0
  have HBW : Hid (∀ W, Below (w3.heap.size + 1) (w3.alloc (.cells #[.slice C0 L.length e0, .slice none 0 0, .slice none 0 0] 29)) W → Below (w.heap.size + 1 + 1 + 1 + 1) (putW w (.int .i64 pg) (.int .i64 wd) (.slice A0 nd.pairs.length c0) (.slice A1 nd.seps.length c1) (.slice A2 nd.kids.length c2) (.string p.k) (.string p.v)) W) :=
    fun W h => hBB3.trans (((Below.refl _ _).alloc (Nat.le_refl _) _ |>.mono (by omega)).trans (h.mono (by omega)))
  have HOB : Hid (∀ W, Below (w3.heap.size + 1) (w3.alloc (.cells #[.slice C0 L.length e0, .slice none 0 0, .slice none 0 0] 29)) W → W.cell? ⟨w3.heap.size, 0, none⟩ = some (.slice C0 L.length e0) ∧ RdN W C0 e0 none 0 none 0 ⟨L, [], []⟩) := by
    intro W h
    refine ⟨(h.cell (p := ⟨w3.heap.size, 0, none⟩) (by show w3.heap.size < _; omega)).trans (cell_of_row _ _ 0 _ _ _ (heap_alloc_new _ _)), ?_⟩
    exact HO.out.rd.below (((Below.refl _ _).alloc (Nat.le_refl _) _).trans (h.mono (by omega)))
  have HHI : Hid (∀ k, (Value.slice C0 L.length e0).ownBlock = some k → k < w3.heap.size) := HO.out.u0
  clear hM0 hL0 hBB3
  go_loopw [12, 13] (fun o i wr => ∃ (k : Nat) (b : Bool), k ≤ L.length ∧ o = .bool b ∧ b = decide (insJ p L < k) ∧ i = .int .i64 k ∧ (∃ B0 d0, Hid (LS (fun _ => False) (w3.alloc (.cells #[.slice C0 L.length e0, .slice none 0 0, .slice none 0 0] 29)) wr (w3.heap.size + 1) (w3.heap.size + 1) (.slice B0 (outK p L k).length d0) (.slice none 0 0) (.slice none 0 0) (outK p L k).length 0 0 (pcells (outK p L k)) [] []))) (fun _ i _ => L.length - (intOf i).toNat)
  case atStart => exact ⟨0, false, Nat.zero_le _, rfl, by simp, rfl, _, _, HL0⟩
  case round =>
    clear HL0
    obtain ⟨k, b, hk, rfl, hbk, rfl, B0, d0, HL⟩ := hrel
    have hbw : Below (w3.heap.size + 1) (w3.alloc (.cells #[.slice C0 L.length e0, .slice none 0 0, .slice none 0 0] 29)) wr := HL.out.kp.below (by simp) (fun _ _ h => h)
    obtain ⟨m0, mN⟩ := HOB.out _ hbw
    obtain ⟨⟨q0, q1⟩, ⟨q2, q3, q4⟩, q5, q6⟩ := put_boxes (HBW.out _ hbw)
    have q7 := put_lt (HBW.out _ hbw)
    obtain ⟨⟨r0, r1, r2⟩, r3, r4, r5⟩ := box_facts HL.out.box
    have y0 : w3.heap.size + 1 < wr.heap.size := HL.out.lt
    have y1 : w3.heap.size < wr.heap.size := by omega
    have y2 : w.heap.size + 1 + 1 < wr.heap.size := by omega
    by_cases hlt : k < L.length
    · obtain ⟨ab, ao, rfl, hk0, hk1⟩ := pairs_at mN.pairs hlt
      have hki : (k : Int) < L.length := by omega
      have hab : ab < w3.heap.size := HHI.out ab rfl
      have y3 : ab < wr.heap.size := by omega
      have HF1 : Hid (∀ W, Below (w3.heap.size + 1) (w3.alloc (.cells #[.slice (some ⟨ab, ao, none⟩) L.length e0, .slice none 0 0, .slice none 0 0] 29)) W → (W.cell? ⟨w3.heap.size, 0, none⟩ = some (.slice (some ⟨ab, ao, none⟩) L.length e0)) ∧ W.cell? ⟨ab, ao + k * 2, none⟩ = some (.string L[k].k) ∧ W.cell? ⟨ab, ao + k * 2 + 1, none⟩ = some (.string L[k].v)) := by
        intro W hW
        obtain ⟨x0, x1⟩ := HOB.out _ hW
        obtain ⟨ab', ao', e, x2, x3⟩ := pairs_at x1.pairs hlt
        cases e
        exact ⟨x0, x2, x3⟩
      have hLb : L.length ≤ 4398046511104 := LB.out
      by_cases hkJ : k = insJ p L
      · have hbf : b = false := by rw [hbk]; simp; omega
        subst hbf
        have E1 : Hid (outK p L k ++ [p] ++ [L[k]] = outK p L (k + 1)) := by subst hkJ; exact outK_put hlt
        have t1 : Op.bytesLess L[k].k.toList p.k.toList = false := by subst hkJ; exact insJ_at hlt
        have t2 := HWO.out k hlt
        have hJk : (outK p L k).length = k := by rw [hkJ]; simp [outK]; omega
        have HM : Hid (((outK p L k).length + 1 + 1) * 32 ≤ 140737488355328) := by have h := HLEN.out L.length (Nat.le_refl _) (outK p L k ++ [p]) (by rw [List.length_append, hJk]; exact hlt)
                                                                                   rw [List.length_append] at h
                                                                                   exact h
        have HM0 : Hid (((outK p L k).length + 1) * 32 ≤ 140737488355328) := HLEN.out L.length (Nat.le_refl _) _ (by omega)
        have BN : Hid (true = decide (insJ p L < k + 1)) := by simp [Hid]; omega
        clear hbk hkJ hJk
        go_wp2
        refine wp_region_grow (by kernel_rfl) (by kernel_rfl) ?_
        repeat (any_goals (first | go_big_quiet_step (skip) | quiet_step (skip)))
        refine wpQuiet_nil ?_
        intro w4 hb4
        have hb4' := hbw.trans (hb4.mono (by omega))
        clear q0 q1 q2 q3 q4 q5 q6 q7 r0 r1 r2 r3 r4 r5 m0 mN hk0 hk1
        have HQ0 := Lib.hid (HL.out.below hb4)
        obtain ⟨⟨q0, q1⟩, ⟨q2, q3, q4⟩, q5, q6⟩ := put_boxes (HBW.out _ hb4')
        have q7 := put_lt (HBW.out _ hb4')
        obtain ⟨⟨r0, r1, r2⟩, r3, r4, r5⟩ := box_facts HQ0.out.box
        have x0 : w3.heap.size + 1 < w4.heap.size := HQ0.out.lt
        have x1 : w3.heap.size < w4.heap.size := by omega
        have x2 : w.heap.size + 1 + 1 < w4.heap.size := by omega
        clear HL hb4 hb4' hbw y0 y1 y2 y3
        have HQ1 := Lib.hid (HQ0.out.alloc (.cells #[.string p.k, .string p.v] 31))
        go_wp2_with (first
          | (at_builtin; refine wpList_append_rd rfl (.tmp 74) (.tmp 76) 25 rfl (w3.heap.size + 1) 31 Try.underlying25 hi0 hz0 hz1 hz2 rfl (by decide) rfl HQ1.out.r0 rfl (one_pair w4 p) (pc1 [p]) HM0.out (by decide) HQ1.out.hb ?_; intro v1 w5 hown hg hx; clear q0 q1 q2 q3 q4 q5 q6 q7 r0 r1 r2 r3 r4 r5; obtain ⟨B1, d1, rfl, _, _⟩ := own_rd hown; have HQ2 := Lib.hid (HQ1.out.app0 hown hg hx.1); obtain ⟨⟨r0, r1, r2⟩, r3, r4, r5⟩ := box_facts (HQ1.out.mid0 hg); clear hown hg hx HQ1 HQ0))
        have e2 : pcells (outK p L k) ++ pcells [p] = pcells (outK p L k ++ [p]) := (pcells_append _ _).symm
        have HQ := HQ2.out
        rw [e2] at HQ
        have HQ := Lib.hid HQ
        clear e2 HQ2 r0 r1 r2 r3 r4 r5 x0 x1 x2
        generalize hwq : World.setCell w5 ⟨w3.heap.size + 1, 0, none⟩ (.slice B1 ((outK p L k).length + 1) d1) = wq at HQ ⊢
        clear hwq
        have hbq : Below (w3.heap.size + 1) (w3.alloc (.cells #[.slice (some ⟨ab, ao, none⟩) L.length e0, .slice none 0 0, .slice none 0 0] 29)) wq := HQ.out.kp.below (by simp) (fun _ _ h => h)
        obtain ⟨⟨r0, r1, r2⟩, r3, r4, r5⟩ := box_facts HQ.out.box
        have HA0 := Lib.hid ((HQ.out.below (Below.refl _ _).drew).alloc (.cells #[.string L[k].k, .string L[k].v] 31))
        have z0 : w3.heap.size + 1 < wq.heap.size := HQ.out.lt
        refine wp_region_tree (S := Below (w3.heap.size + 1) (w3.alloc (.cells #[.slice (some ⟨ab, ao, none⟩) L.length e0, .slice none 0 0, .slice none 0 0] 29))) (.take 0 (.take 2 (.take 3 (.take 4 (.take 5 (.take 6 (.two 1 7 (.run 7 (.run 8 (.take 9 (.run 10 .done)))) (.run 1 (.run 8 (.take 9 (.run 10 .done)))))))))))
          (by kernel_rfl) (by kernel_rfl) (by kernel_rfl) (fun _ _ d _ _ h => by cases d <;> exact h) hbq.drew ?_
        repeat (apply tree_take; (exact rfl); rfl; (intro W hW; obtain ⟨z1, z2, z3⟩ := HF1.out W hW; go_simp; (try with_reducible rfl)); simp only [Act.put, List.setIfInBounds_toArray, List.set_cons_zero, List.set_cons_succ])
        have hba := hbq.drew.alloc (Nat.le_of_lt z0) (.cells #[.string L[k].k, .string L[k].v] 31)
        refine tree_two ?_ ?_
        rotate_left
        apply tree_run; (exact rfl); rfl; intro K hK; go_simp
        refine hK.out _ _ hba (fun _ => ?_)
        clear hK K
        try simp only [Act.put, List.setIfInBounds_toArray, List.set_cons_zero, List.set_cons_succ]
        apply tree_run; (exact rfl); rfl; intro K hK; go_simp
        refine hK.out _ _ hba (fun _ => ?_)
        clear hK K
        try simp only [Act.put, List.setIfInBounds_toArray, List.set_cons_zero, List.set_cons_succ]
        rotate_left
        apply tree_run; (exact rfl); rfl; intro K hK; go_simp
        refine hK.out _ _ hbq.drew (fun _ => ?_)
        clear hK K
        try simp only [Act.put, List.setIfInBounds_toArray, List.set_cons_zero, List.set_cons_succ]
        apply tree_run; (exact rfl); rfl; intro K hK; go_simp
        refine hK.out _ _ hba (fun _ => ?_)
        clear hK K
        try simp only [Act.put, List.setIfInBounds_toArray, List.set_cons_zero, List.set_cons_succ]
        all_goals
          apply tree_run; (exact rfl); rfl; intro K hK
          refine wp_append_rd (.tmp 80) (.tmp 86) 25 rfl (w3.heap.size + 1) 31 Try.underlying25 hi0 hz0 hz1 hz2 rfl (by decide) rfl HA0.out.r0 rfl (one_pair' wq.drew L[k] _ rfl) (pc1 [L[k]]) HM.out (by decide) HA0.out.hb ?_
          intro v1 w2 hown hg hx
          obtain ⟨E0, f0, rfl, _, _⟩ := own_rd hown
          have HA1 := Lib.hid (HA0.out.app0 hown hg hx.1)
          obtain ⟨⟨x0, x1, x2⟩, x3, x4, x5⟩ := box_facts (HA0.out.mid0 hg)
          have hb2 := hba.grown hg (HA0.out.hb) (fun k e => (HA0.out.r0.lt k e).1)
          refine hK.out _ _ hb2 (fun _ => ?_)
          clear hK K hown hg hx
          try simp only [Act.put, List.setIfInBounds_toArray, List.set_cons_zero, List.set_cons_succ]
          apply tree_take; (exact rfl); rfl; (intro W hW; go_simp; (try with_reducible rfl)); simp only [Act.put, List.setIfInBounds_toArray, List.set_cons_zero, List.set_cons_succ]
          apply tree_run; (exact rfl); rfl; intro K hK; go_simp
          refine hK.out _ _ (hb2.setCell (p := ⟨w3.heap.size + 1, 0, none⟩) (Nat.le_refl _) _) (fun _ => ?_)
          clear hK K
          refine tree_done ?_
          go_wp2
          go_roundw
          case rel =>
            refine ⟨k + 1, _, by omega, rfl, BN.out, by go_num, E0, f0, ?_⟩
            rw [← E1.out, pcells_append, List.length_append, List.length_append]
            exact HA1
          case measure => simp [intOf]; omega
      · have E1 := Lib.hid (outK_step (p := p) hlt hkJ)
        have HM : Hid (((outK p L k).length + 1) * 32 ≤ 140737488355328) := HLEN.out L.length (Nat.le_refl _) _ (by have := outK_len p L k; omega)
        have BN : Hid (b = decide (insJ p L < k + 1)) := by rw [hbk]; simp [Hid]; omega
        have t2 := HWO.out k hlt
        have tb : b = true ∨ (b = false ∧ Op.bytesLess L[k].k.toList p.k.toList = true) := by
          by_cases hh : insJ p L < k
          · exact .inl (by rw [hbk]; simpa using hh)
          · exact .inr ⟨by rw [hbk]; simpa using hh, insJ_lo hlt (by omega) t2⟩
        clear hbk
        rcases tb with rfl | ⟨rfl, t1⟩
        all_goals
          go_wp2
          refine wp_region_grow (by kernel_rfl) (by kernel_rfl) ?_
          repeat (any_goals (first | go_big_quiet_step (skip) | quiet_step (skip)))
          refine wpQuiet_nil ?_
          intro w4 hb4
          clear q0 q1 q2 q3 q4 q5 q6 q7 r0 r1 r2 r3 r4 r5 m0 mN hk0 hk1
          have HQ := Lib.hid (HL.out.below hb4)
          clear HL hb4 hbw y0 y1 y2 y3
          go_wp2
          have hbq : Below (w3.heap.size + 1) (w3.alloc (.cells #[.slice (some ⟨ab, ao, none⟩) L.length e0, .slice none 0 0, .slice none 0 0] 29)) w4 := HQ.out.kp.below (by simp) (fun _ _ h => h)
          obtain ⟨⟨r0, r1, r2⟩, r3, r4, r5⟩ := box_facts HQ.out.box
          have HA0 := Lib.hid ((HQ.out.below (Below.refl _ _).drew).alloc (.cells #[.string L[k].k, .string L[k].v] 31))
          have z0 : w3.heap.size + 1 < w4.heap.size := HQ.out.lt
          refine wp_region_tree (S := Below (w3.heap.size + 1) (w3.alloc (.cells #[.slice (some ⟨ab, ao, none⟩) L.length e0, .slice none 0 0, .slice none 0 0] 29))) (.take 0 (.take 2 (.take 3 (.take 4 (.take 5 (.take 6 (.two 1 7 (.run 7 (.run 8 (.take 9 (.run 10 .done)))) (.run 1 (.run 8 (.take 9 (.run 10 .done)))))))))))
            (by kernel_rfl) (by kernel_rfl) (by kernel_rfl) (fun _ _ d _ _ h => by cases d <;> exact h) hbq.drew ?_
          repeat (apply tree_take; (exact rfl); rfl; (intro W hW; obtain ⟨z1, z2, z3⟩ := HF1.out W hW; go_simp; (try with_reducible rfl)); simp only [Act.put, List.setIfInBounds_toArray, List.set_cons_zero, List.set_cons_succ])
          have hba := hbq.drew.alloc (Nat.le_of_lt z0) (.cells #[.string L[k].k, .string L[k].v] 31)
          refine tree_two ?_ ?_
          rotate_left
          apply tree_run; (exact rfl); rfl; intro K hK; go_simp
          refine hK.out _ _ hba (fun _ => ?_)
          clear hK K
          try simp only [Act.put, List.setIfInBounds_toArray, List.set_cons_zero, List.set_cons_succ]
          apply tree_run; (exact rfl); rfl; intro K hK; go_simp
          refine hK.out _ _ hba (fun _ => ?_)
          clear hK K
          try simp only [Act.put, List.setIfInBounds_toArray, List.set_cons_zero, List.set_cons_succ]
          rotate_left
          apply tree_run; (exact rfl); rfl; intro K hK; go_simp
          refine hK.out _ _ hbq.drew (fun _ => ?_)
          clear hK K
          try simp only [Act.put, List.setIfInBounds_toArray, List.set_cons_zero, List.set_cons_succ]
          apply tree_run; (exact rfl); rfl; intro K hK; go_simp
          refine hK.out _ _ hba (fun _ => ?_)
          clear hK K
          try simp only [Act.put, List.setIfInBounds_toArray, List.set_cons_zero, List.set_cons_succ]
          all_goals
            apply tree_run; (exact rfl); rfl; intro K hK
            refine wp_append_rd (.tmp 80) (.tmp 86) 25 rfl (w3.heap.size + 1) 31 Try.underlying25 hi0 hz0 hz1 hz2 rfl (by decide) rfl HA0.out.r0 rfl (one_pair' w4.drew L[k] _ rfl) (pc1 [L[k]]) HM.out (by decide) HA0.out.hb ?_
            intro v1 w2 hown hg hx
            obtain ⟨E0, f0, rfl, _, _⟩ := own_rd hown
            have HA1 := Lib.hid (HA0.out.app0 hown hg hx.1)
            obtain ⟨⟨x0, x1, x2⟩, x3, x4, x5⟩ := box_facts (HA0.out.mid0 hg)
            have hb2 := hba.grown hg (HA0.out.hb) (fun k e => (HA0.out.r0.lt k e).1)
            refine hK.out _ _ hb2 (fun _ => ?_)
            clear hK K hown hg hx
            try simp only [Act.put, List.setIfInBounds_toArray, List.set_cons_zero, List.set_cons_succ]
            apply tree_take; (exact rfl); rfl; (intro W hW; go_simp; (try with_reducible rfl)); simp only [Act.put, List.setIfInBounds_toArray, List.set_cons_zero, List.set_cons_succ]
            apply tree_run; (exact rfl); rfl; intro K hK; go_simp
            refine hK.out _ _ (hb2.setCell (p := ⟨w3.heap.size + 1, 0, none⟩) (Nat.le_refl _) _) (fun _ => ?_)
            clear hK K
            refine tree_done ?_
            go_wp2
            go_roundw
            case rel =>
              refine ⟨k + 1, _, by omega, rfl, BN.out, by go_num, E0, f0, ?_⟩
              rw [← E1.out, pcells_append, List.length_append]
              exact HA1
            case measure => simp [intOf]; omega
    · obtain rfl : k = L.length := by omega
      have hLb : L.length ≤ 4398046511104 := LB.out
      have hlt' : ¬ (((L.length : Nat) : Int) < L.length) := by omega
      have he := outK_end p L
      rw [HF.out] at he
      have HPK := Lib.hid HN.out.pk
      have HFIN : Hid (∀ (X : List PairD) (B1 : Option Addr) (d1 : Nat) (W : World), X = (putN nd p).pairs → (∃ W0 : World, LS (fun _ => False) (w3.alloc (.cells #[.slice C0 L.length e0, .slice none 0 0, .slice none 0 0] 29)) W (w3.heap.size + 1) (w3.heap.size + 1) (.slice B1 X.length d1) (.slice none 0 0) (.slice none 0 0) X.length 0 0 (pcells X) [] []) →
          Below w.heap.size w W ∧ w.heap.size + 1 + 1 + 1 < w3.heap.size ∧ OwN W (w3.heap.size + 1) W.heap.size B1 d1 none 0 none 0 (putN nd p)) := by
        intro X B1 d1 W e ⟨_, h⟩
        subst e
        exact ⟨put_below (HBW.out _ (h.kp.below (by simp) (fun _ _ h => h))), by omega, putN_own h.r0 (Nat.le_refl _) hroomH.out HPK.out HPP.out⟩
      by_cases hj : insJ p L < L.length
      · have hbt : b = true := by rw [hbk]; simpa using hj
        subst hbt
        rw [if_pos hj] at he
        have HXE := Lib.hid he
        clear he hbk hj
        go_wp2_with (first
          | (refine wpList_store_row rfl 29 (.tmp 6) (.tmp 97) rfl (w.heap.size + 1 + 1 + 1) #[.slice B0 (outK p L L.length).length d0, .slice none 0 0, .slice none 0 0] rfl rfl 29 _ (put_row (HBW.out _ hbw)) info29' rfl (sl3_one _ _ _ _ _ _ _ _ _) ?_))
        refine bodyPost_ret (results_ctt rfl _ _ (w.heap.size + 1 + 1 + 1) 29 #[.slice B0 (outK p L L.length).length d0, .slice none 0 0, .slice none 0 0] (0, 0) _ rfl (setRow_block _ _ _ _ _ _ (put_row (HBW.out _ hbw))) Try.underlying29 rfl info29') rfl ?_
        obtain ⟨f1, f2, f3⟩ := HFIN.out _ _ _ _ HXE.out ⟨wr, HL.out⟩
        rw [HXE.out]
        exact put_fin w _ pg wd nd p B0 d0 HE.out _ HB.out.symm (below_setRow f1 (by omega) _) ((f3.setRow _ _ (by omega)).wide (by omega) (by simp [World.setRow]))
      · have hbt : b = false := by rw [hbk]; simpa using hj
        subst hbt
        rw [if_neg hj] at he
        have HXE := Lib.hid he
        have hle : (outK p L L.length).length ≤ L.length := by rw [outK, if_neg hj]; simp
        have HM0 : Hid (((outK p L L.length).length + 1) * 32 ≤ 140737488355328) := HLEN.out L.length (Nat.le_refl _) _ hle
        have HQ1 := Lib.hid (HL.out.alloc (.cells #[.string p.k, .string p.v] 31))
        clear he hbk hj hle
        go_wp2_with (first
          | (at_builtin; refine wpList_append_rd rfl (.tmp 92) (.tmp 94) 25 rfl (w3.heap.size + 1) 31 Try.underlying25 hi0 hz0 hz1 hz2 rfl (by decide) rfl HQ1.out.r0 rfl (one_pair wr p) (pc1 [p]) HM0.out (by decide) HQ1.out.hb ?_; intro v1 w5 hown hg hx; clear q0 q1 q2 q3 q4 q5 q6 q7 r0 r1 r2 r3 r4 r5; obtain ⟨B1, d1, rfl, _, _⟩ := own_rd hown; have HQ2 := Lib.hid (HQ1.out.app0 hown hg hx.1); obtain ⟨⟨r0, r1, r2⟩, r3, r4, r5⟩ := box_facts (HQ1.out.mid0 hg); clear hown hg hx HQ1)
          | (refine wpList_store_row rfl 29 (.tmp 6) (.tmp 97) rfl (w.heap.size + 1 + 1 + 1) #[.slice B1 ((outK p L L.length).length + 1) d1, .slice none 0 0, .slice none 0 0] rfl rfl 29 _ (put_row (HBW.out _ (HQ2.out.kp.below (by simp) (fun _ _ h => h)))) info29' rfl (sl3_one _ _ _ _ _ _ _ _ _) ?_))
        refine bodyPost_ret (results_ctt rfl _ _ (w.heap.size + 1 + 1 + 1) 29 #[.slice B1 ((outK p L L.length).length + 1) d1, .slice none 0 0, .slice none 0 0] (0, 0) _ rfl (setRow_block _ _ _ _ _ _ (put_row (HBW.out _ (HQ2.out.kp.below (by simp) (fun _ _ h => h))))) Try.underlying29 rfl info29') rfl ?_
        have e2 : pcells (outK p L L.length) ++ pcells [p] = pcells (outK p L L.length ++ [p]) := (pcells_append _ _).symm
        have e3 : (outK p L L.length).length + 1 = (outK p L L.length ++ [p]).length := by simp
        have HQ := HQ2.out
        rw [e2, e3] at HQ
        obtain ⟨f1, f2, f3⟩ := HFIN.out _ _ _ _ HXE.out ⟨wr, HQ⟩
        rw [e3, HXE.out] at *
        exact put_fin w _ pg wd nd p B1 d1 HE.out _ HB.out.symm (below_setRow f1 (by omega) _) ((f3.setRow _ _ (by omega)).wide (by omega) (by simp [World.setRow]))

end Go.Proofs.Ytajkoeodabmgeaa
end

section
namespace Go.Proofs.Ytajkoeodabmgeaa
open Go.RowKit
set_option maxHeartbeats 2000000
set_option maxRecDepth 100000

theorem cntW_cons {α : Type} (f : α → Bool) (a : α) (t : List α) : cntW f (a :: t) = if f a = true then cntW f t + 1 else 0 := by
  unfold cntW
  rw [List.takeWhile_cons]
  split <;> simp
abbrev up (l : List PairD) : Prop := l.Pairwise (fun a b => bl a.k b.k = true)
theorem bl_trans {a b c : ByteArray} (h : bl a b = true) (k : bl b c = true) : bl a c = true := lt_trans h k

theorem rises_lt {mk : Int} {ks : List ByteArray} (h : rises mk ks) : ∀ i j (hi : i < j) (hj : j < ks.length), bl (ks[i]'(by omega)) ks[j] = true := by
  intro i j hi hj
  induction j with
  | zero => omega
  | succ j ih =>
    have h1 := (h (j + 1) hj).2 (by omega)
    simp only [Nat.add_sub_cancel] at h1
    by_cases he : i = j
    · subst he; exact h1
    · exact bl_trans (ih (by omega) (by omega)) h1
theorem rises_up {mk : Int} {l : List PairD} (h : rises mk (l.map (·.k))) : up l := by
  rw [up, List.pairwise_iff_getElem]
  intro i j hi hj hij
  have := rises_lt h i j hij (by simpa using hj)
  simpa using this
theorem leaf_up {pg wd : Int} {nd : NodeD} (h : leafB pg wd nd = true) : up nd.pairs := by
  rw [leafB_iff, decide_eq_true_iff] at h
  obtain ⟨_, hs⟩ := checkE_zero h.1
  rw [shaped, if_pos h.2] at hs
  exact rises_up hs.1

theorem wo_self {key : ByteArray} {t : List PairD} (h : ∀ q ∈ t, bl key q.k = true) : wo key t = t ∧ woB key t = false := by
  have hk : ∀ q ∈ t, isK key q = false := by
    intro q hq
    have := h q hq
    cases hc : isK key q with
    | false => rfl
    | true =>
      simp only [isK, beq_iff_eq] at hc
      rw [bl, hc] at this
      have h' : lt key.toList key.toList = true := this
      rw [lt_irrefl] at h'
      cases h'
  constructor
  · rw [wo, List.filter_eq_self]; intro q hq; rw [hk q hq]; rfl
  · rw [woB, List.any_eq_false]; intro q hq; rw [hk q hq]; decide

theorem ref_put (p : PairD) : ∀ l : List PairD, up l →
    (wo p.k l).take (insJ p (wo p.k l)) ++ [p] ++ (wo p.k l).drop (insJ p (wo p.k l)) = l.take (findI l p.k) ++ [p] ++ l.drop (findI l p.k + manyB (findB l p.k)) ∧ woB p.k l = findB l p.k
  | [], _ => by simp [wo, insJ, findI, findB, woB, cntW]
  | a :: t, h => by
    obtain ⟨ha, ht⟩ := List.pairwise_cons.1 h
    obtain ⟨ih, ihB⟩ := ref_put p t ht
    rcases lt_total a.k.toList p.k.toList with e | e | e
    · have hk : isK p.k a = false := by
        simp only [isK, beq_eq_false_iff_ne]
        intro h'; rw [h', lt_irrefl] at e; cases e
      have e1 : wo p.k (a :: t) = a :: wo p.k t := by simp [wo, hk]
      have e2 : insJ p (a :: wo p.k t) = insJ p (wo p.k t) + 1 := by
        unfold insJ
        rw [cntW_cons, if_pos]
        rw [show bl p.k a.k = false from lt_asymm e]; rfl
      have e3 : findI (a :: t) p.k = findI t p.k + 1 := by unfold findI; rw [cntW_cons, if_pos e]
      have e4 : findB (a :: t) p.k = findB t p.k := by unfold findB; rw [e3, List.getElem?_cons_succ]
      constructor
      · rw [e1, e2, e3, e4, show findI t p.k + 1 + manyB (findB t p.k) = (findI t p.k + manyB (findB t p.k)) + 1 by omega]
        simp only [List.take_succ_cons, List.drop_succ_cons, List.cons_append]
        rw [ih]
      · rw [e4, ← ihB]; simp [woB, hk]
    · have hk : isK p.k a = true := by simp [isK, e]
      have hall : ∀ q ∈ t, bl p.k q.k = true := by
        intro q hq
        have := ha q hq
        rwa [bl, e] at this
      obtain ⟨w1, w2⟩ := wo_self hall
      have e1 : wo p.k (a :: t) = t := by rw [← w1]; simp [wo, hk]
      have e3 : findI (a :: t) p.k = 0 := by unfold findI; rw [cntW_cons, if_neg]; rw [bl, e]; intro h'; have h'' : lt p.k.toList p.k.toList = true := h'; rw [lt_irrefl] at h''; cases h''
      have e4 : findB (a :: t) p.k = true := by unfold findB; rw [e3]; simp [e]
      have e5 : insJ p t = 0 := by
        unfold insJ
        cases t with
        | nil => rfl
        | cons b t => rw [cntW_cons, if_neg]; rw [hall b (List.mem_cons_self ..)]; decide
      constructor
      · rw [e1, e3, e4, e5]; simp [manyB]
      · rw [e4]; simp [woB, hk]
    · have hall : ∀ q ∈ a :: t, bl p.k q.k = true := by
        intro q hq
        rcases List.mem_cons.1 hq with rfl | hq
        · exact e
        · exact bl_trans e (ha q hq)
      obtain ⟨w1, w2⟩ := wo_self hall
      have e3 : findI (a :: t) p.k = 0 := by unfold findI; rw [cntW_cons, if_neg]; rw [show bl a.k p.k = false from lt_asymm e]; decide
      have e4 : findB (a :: t) p.k = false := by
        unfold findB; rw [e3]
        show (a.k.toList == p.k.toList) = false
        simp only [beq_eq_false_iff_ne]
        intro h'; rw [h', lt_irrefl] at e; cases e
      have e5 : insJ p (a :: t) = 0 := by
        unfold insJ
        rw [cntW_cons, if_neg]; rw [show bl p.k a.k = true from e]; decide
      constructor
      · rw [w1, e3, e4, e5]; simp [manyB]
      · rw [w2, e4]

theorem refPut_c (pg wd : Int) (A0 A1 A2 : Option Addr) (c0 c1 c2 : Nat) (nd : NodeD) (p : PairD) (w : World) (hN : RdN w A0 c0 A1 c1 A2 c2 nd)
    (hroom : (nd.pairs.length + 1) * 32 ≤ 140737488355328) (hpp : p.k.size ≤ 140737488355328 ∧ p.v.size ≤ 140737488355328) :
    Calls Try.prog 23 #[vF pg wd, vN A0 c0 A1 c1 A2 c2 nd, vP p] w fun e w' =>
      ∃ B0 d0, e = .returned (.tuple #[vN B0 d0 none 0 none 0 (putR pg wd nd p), .bool (putB pg wd nd p), .int .i64 (putE pg wd nd p)]) ∧
        OwN w' w.heap.size w'.heap.size B0 d0 none 0 none 0 (putR pg wd nd p) ∧ Below w.heap.size w w' := by
  cases hr : right pg wd with
  | false => exact refPut_wrong pg wd A0 A1 A2 c0 c1 c2 nd p w hr
  | true =>
    cases hl : leafB pg wd nd with
    | false => exact refPut_unshaped pg wd A0 A1 A2 c0 c1 c2 nd p w hN hr hl
    | true =>
      cases hp : putP pg p with
      | false => exact refPut_arg pg wd A0 A1 A2 c0 c1 c2 nd p w hN hr hl hp
      | true =>
        obtain ⟨h1, h2⟩ := ref_put p nd.pairs (leaf_up hl)
        exact refPut_ok pg wd A0 A1 A2 c0 c1 c2 nd p w hN hr hl hp hroom hpp h1 h2

end Go.Proofs.Ytajkoeodabmgeaa
end

section
namespace Go.Proofs.Ytajkoeodabmgeaa
open Go.RowKit
set_option maxHeartbeats 2000000
set_option maxRecDepth 100000
attribute [local go_sem] grow_cell grow_frozen grow_size

theorem own_short {w : World} {base : Nat} {e : TypeId} {size n m c : Nat} {A : Option Addr} {xs ys : List Value} (h : w.ownsRow base e size (.slice A m c) m ys) (hn : n ≤ m) (hx : ys.take (n * size) = xs) (hz : 0 < n ∨ 0 < m) : w.ownsRow base e size (.slice A n c) n xs := by
  obtain ⟨h1, h2⟩ := h
  rcases h2 with ⟨_, h⟩ | ⟨g, cap, cur, hv, hb, hg, hm, hc, hs, ht⟩
  · omega
  · cases hv
    have hle : n * size ≤ m * size := Nat.mul_le_mul_right _ hn
    refine ⟨by rw [← hx, List.length_take, h1]; omega, .inr ⟨g, c, cur, rfl, hb, hg, by omega, hc, hs, ?_⟩⟩
    rw [← hx, ← ht, List.take_take]
    congr 1; omega

theorem OwN.short {w : World} {lo hi k : Nat} {A0 A1 A2 : Option Addr} {c0 c1 c2 : Nat} {nd : NodeD} (h : OwN w lo hi A0 c0 A1 c1 A2 c2 (longN nd k)) (hk : 0 < k) : OwN w lo hi A0 c0 A1 c1 A2 c2 nd := by
  obtain ⟨l0, l1, l2⟩ := long_len nd k
  have a0 := h.pairs
  have a1 := h.seps
  have a2 := h.kids
  have r := h.rd.short
  have h0 := h.u0
  have h1 := h.u1
  have h2 := h.u2
  rw [l0] at a0; rw [l1] at a1; rw [l2] at a2
  exact ⟨own_short a0 (by omega) (by rw [pcells_take]; simp [longN]) (by omega), own_short a1 (by omega) (by rw [scells_take]; simp [longN]) (by omega),
    own_short a2 (by omega) (by rw [kcells_take _ _ (h.kk)]; simp [longN]) (by omega),
    fun k hk => h0 k (by cases A0 <;> exact hk), fun k hk => h1 k (by cases A1 <;> exact hk), fun k hk => h2 k (by cases A2 <;> exact hk),
    r.hp, r.hs, r.hk, r.pk, r.sk, r.kk⟩

/-- The world of the law's three arguments. -/
abbrev lawW (w : World) (a b c d e f g : Value) : World := ((w.alloc (.cells #[a, b] 24)).alloc (.cells #[c, d, e] 29)).alloc (.cells #[f, g] 31)
theorem lawW_boxes {w w1 : World} {a b c d e f g : Value} (h : Below (w.heap.size + 1 + 1 + 1) (lawW w a b c d e f g) w1) :
    (w1.cell? ⟨w.heap.size, 0, none⟩ = some a ∧ w1.cell? ⟨w.heap.size, 1, none⟩ = some b) ∧
    (w1.cell? ⟨w.heap.size + 1, 0, none⟩ = some c ∧ w1.cell? ⟨w.heap.size + 1, 1, none⟩ = some d ∧ w1.cell? ⟨w.heap.size + 1, 2, none⟩ = some e) ∧
    (w1.cell? ⟨w.heap.size + 1 + 1, 0, none⟩ = some f ∧ w1.cell? ⟨w.heap.size + 1 + 1, 1, none⟩ = some g) := by
  have h0 : w1.heap[w.heap.size]? = some (.cells #[a, b] 24 (0, 0)) := (h.block _ (by omega)).trans (alloc3_0 w _ _ _)
  have h1 : w1.heap[w.heap.size + 1]? = some (.cells #[c, d, e] 29 (0, 0)) := (h.block _ (by omega)).trans (alloc3_1 w _ _ _)
  have h2 : w1.heap[w.heap.size + 1 + 1]? = some (.cells #[f, g] 31 (0, 0)) := (h.block _ (by omega)).trans (alloc3_at w _ _ _)
  exact ⟨⟨cell_of_row _ _ 0 _ _ _ h0, cell_of_row _ _ 1 _ _ _ h0⟩, ⟨cell_of_row _ _ 0 _ _ _ h1, cell_of_row _ _ 1 _ _ _ h1, cell_of_row _ _ 2 _ _ _ h1⟩, ⟨cell_of_row _ _ 0 _ _ _ h2, cell_of_row _ _ 1 _ _ _ h2⟩⟩
theorem lawW_base {w : World} {a b c d e f g : Value} : Below w.heap.size w (lawW w a b c d e f g) :=
  ((((Below.refl _ _).alloc (Nat.le_refl _) _).alloc (by simp) _).alloc (by simp <;> omega) _)
theorem lawW_size {w w1 : World} {a b c d e f g : Value} (h : Below (w.heap.size + 1 + 1 + 1) (lawW w a b c d e f g) w1) : w.heap.size + 1 + 1 + 1 ≤ w1.heap.size := by
  have := h.size; simpa [lawW] using this
theorem lawW_below {w w1 : World} {a b c d e f g : Value} (h : Below (w.heap.size + 1 + 1 + 1) (lawW w a b c d e f g) w1) : Below w.heap.size w w1 := lawW_base.trans (h.mono (by omega))
theorem lawW_next {w w1 w2 : World} {a b c d e f g : Value} (h : Below (w.heap.size + 1 + 1 + 1) (lawW w a b c d e f g) w1) (hb : Below w1.heap.size w1 w2) : Below (w.heap.size + 1 + 1 + 1) (lawW w a b c d e f g) w2 :=
  h.trans (hb.mono (lawW_size h))

theorem putR_room {pg wd : Int} {nd : NodeD} {p : PairD} (h : Room 8 nd) : Room 6 (putR pg wd nd p) := by
  have h0 : (putN nd p).pairs.length ≤ nd.pairs.length + 1 := by
    simp only [putN, List.length_append, List.length_take, List.length_drop, List.length_cons, List.length_nil]
    omega
  have h1 := h.p
  unfold putR
  split
  · exact ⟨by omega, by simp [putN], by simp [putN]⟩
  · exact ⟨by simp [noN], by simp [noN], by simp [noN]⟩

abbrev xB (A0 : Option Addr) (c0 : Nat) (A1 : Option Addr) (c1 : Nat) (A2 : Option Addr) (c2 : Nat) (nd : NodeD) : Obj := .cells #[.slice A0 nd.pairs.length c0, .slice A1 nd.seps.length c1, .slice A2 nd.kids.length c2] 29

end Go.Proofs.Ytajkoeodabmgeaa
end
