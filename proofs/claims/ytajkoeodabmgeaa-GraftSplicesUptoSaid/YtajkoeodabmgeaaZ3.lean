import Derived.Test.YtajkoeodabmgeaaZ2
import Derived.Test.YtajkoeodabmgeaaZ1
import Derived.OwnWalk
import Derived.Maps.AppendAt
import Derived.Deep.RegionWith
import Derived.Lib.ConvBytes

section
namespace Go.Proofs.Ytajkoeodabmgeaa
open Go.RowKit
set_option maxHeartbeats 2000000
set_option maxRecDepth 100000
attribute [local go_sem] grow_cell grow_frozen grow_size

theorem refRight_c (pg wd : Int) (w : World) :
    Calls Try.prog 66 #[vF pg wd] w fun e w' => e = .returned (.bool (right pg wd)) ∧ Below w.heap.size w w' := by
  have hw : (1 ≤ wd ∧ wd ≤ 32) ∨ (1 ≤ wd ∧ ¬ wd ≤ 32) ∨ (¬ 1 ≤ wd) := by omega
  by_cases hp : pg = 1024 ∨ pg = 2048 ∨ pg = 4096 ∨ pg = 8192
  · rcases hp with rfl | rfl | rfl | rfl
    all_goals
      rcases hw with ⟨a1, a2⟩ | ⟨a1, a2⟩ | a1
      all_goals
        go_enter Try.func66, Try.ntmps66
        go_wp2
        go_ret
        exact ⟨ret_eq (by simp [right]; omega), (Below.refl _ _).alloc (Nat.le_refl _) _⟩
  · have e1 : (pg == 1024) = false := by simp; omega
    have e2 : (pg == 2048) = false := by simp; omega
    have e3 : (pg == 4096) = false := by simp; omega
    have e4 : (pg == 8192) = false := by simp; omega
    have HP := Lib.hid hp
    clear hp hw
    go_enter Try.func66, Try.ntmps66
    go_wp2
    go_ret
    exact ⟨ret_eq (show Value.bool false = _ by rw [show right pg wd = false from decide_eq_false (fun h => HP.out h.1)]), (Below.refl _ _).alloc (Nat.le_refl _) _⟩

theorem refLeaf_c (A0 A1 A2 : Option Addr) (n0 c0 n1 c1 n2 c2 : Nat) (w : World) (b : Bool) (hb : decide (n1 = 0 ∧ n2 = 0) = b) :
    Calls Try.prog 70 #[.agg #[.slice A0 n0 c0, .slice A1 n1 c1, .slice A2 n2 c2]] w fun e w' => e = .returned (.bool b) ∧ Below w.heap.size w w' := by
  subst hb
  by_cases h1 : n1 = 0 <;> by_cases h2 : n2 = 0
  all_goals
    go_enter Try.func70, Try.ntmps70
    go_wp2
    go_ret
    exact ⟨ret_eq (by simp [h1, h2]), (Below.refl _ _).alloc (Nat.le_refl _) _⟩

theorem keys_c (A : Option Addr) (c : Nat) (l : List ByteArray) (mk : Int) (w : World) (hR : Rd w 1 A l.length (scells l)) (hl : l.length * 16 ≤ 140737488355328) (hv : ∀ p ∈ l, p.size ≤ 140737488355328) :
    Calls Try.prog 110 #[.slice A l.length c, .int .i64 mk] w fun e w' => e = .returned (.bool (risesB mk l)) ∧ Below w.heap.size w w' := by
  have HV := Lib.hid hv
  clear hv
  go_enter Try.func110, Try.ntmps110
  go_wp2
  go_loopw [5] (fun i wr => ∃ k : Nat, k ≤ l.length ∧ i = .int .i64 k ∧ Hid (∀ j (h : j < l.length), j < k → keyOk mk l j h) ∧ Below w.heap.size w wr) (fun i _ => l.length - (intOf i).toNat)
  case atStart => exact ⟨0, Nat.zero_le _, rfl, fun j h h' => absurd h' (by omega), Below.refl _ _⟩
  case round =>
    obtain ⟨k, hk, rfl, hno, hB⟩ := hrel
    have hR' := hR.below hB
    have hsz := hB.size
    clear hR
    by_cases hlt : k < l.length
    · obtain ⟨ab, ao, rfl, hk0⟩ := seps_at hR' hlt
      have habl : ab < wr.heap.size := World.block_lt_of_cell? _ _ hk0
      have hvk := HV.out _ (List.getElem_mem hlt)
      have hki : (k : Int) < l.length := by omega
      go_wp2
      by_cases a1 : 1 ≤ l[k].size
      · have d1 : decide ((l[k].size : Int) < 1) = false := by simp; omega
        by_cases a2 : (l[k].size : Int) ≤ mk
        · have d2 : decide (mk < (l[k].size : Int)) = false := by simp; omega
          rcases k with _ | k
          · simp only [Nat.add_zero] at hk0
            have d3 : decide ((0 : Int) < 0) = false := by simp
            clear hR'
            refine wp_region_grow (by kernel_rfl) (by kernel_rfl) ?_
            repeat (any_goals (first | go_big_quiet_step (fail) | quiet_step (fail)))
            refine wpQuiet_nil ?_
            intro w1 hb
            go_wp2
            go_roundw
            case rel => exact ⟨1, by omega, rfl, fun j h h' => by
              obtain rfl : j = 0 := by omega
              exact ⟨⟨a1, a2⟩, fun h => absurd h (by omega)⟩, below_s0 hB hsz hb⟩
            case measure => simp [intOf]; omega
          · obtain ⟨ab', ao', he, hj0⟩ := seps_at hR' (k := k) (by omega)
            cases he
            clear hR'
            have d3 : decide ((0 : Int) < (k : Int) + 1) = true := decide_eq_true (by omega)
            cases a4 : bl l[k] l[k + 1] with
            | true =>
              refine wp_region_grow (by kernel_rfl) (by kernel_rfl) ?_
              repeat (any_goals (first | go_big_quiet_step (fail) | quiet_step (fail)))
              refine wpQuiet_nil ?_
              intro w1 hb
              go_wp2
              go_roundw
              case rel => exact ⟨k + 1 + 1, by omega, by go_num, fun j h h' => by
                by_cases e : j = k + 1
                · subst e
                  exact ⟨⟨a1, a2⟩, fun _ => a4⟩
                · exact hno.out j h (by omega), below_s0 hB hsz hb⟩
              case measure => simp [intOf]; omega
            | false =>
              refine wp_region_grow (by kernel_rfl) (by kernel_rfl) ?_
              repeat (any_goals (first | go_big_quiet_step (fail) | quiet_step (fail)))
              refine wpQuiet_nil ?_
              intro w1 hb
              go_wp2
              go_ret
              exact ⟨ret_eq (show Value.bool false = _ by rw [show risesB mk l = false from decide_eq_false (fun h => by have := (h (k + 1) hlt).2 (by omega); rw [show l[k + 1 - 1] = l[k] from rfl, a4] at this; cases this)]), below_s0 hB hsz hb⟩
        · have d2 : decide (mk < (l[k].size : Int)) = true := by simp; omega
          refine wp_region_grow (by kernel_rfl) (by kernel_rfl) ?_
          repeat (any_goals (first | go_big_quiet_step (fail) | quiet_step (fail)))
          refine wpQuiet_nil ?_
          intro w1 hb
          go_wp2
          go_ret
          exact ⟨ret_eq (show Value.bool false = _ by rw [show risesB mk l = false from decide_eq_false (fun h => by have := (h k hlt).1.2; omega)]), below_s0 hB hsz hb⟩
      · have d1 : decide ((l[k].size : Int) < 1) = true := by simp; omega
        refine wp_region_grow (by kernel_rfl) (by kernel_rfl) ?_
        repeat (any_goals (first | go_big_quiet_step (fail) | quiet_step (fail)))
        refine wpQuiet_nil ?_
        intro w1 hb
        go_wp2
        go_ret
        exact ⟨ret_eq (show Value.bool false = _ by rw [show risesB mk l = false from decide_eq_false (fun h => by have := (h k hlt).1.1; omega)]), below_s0 hB hsz hb⟩
    · go_wp2
      go_ret
      exact ⟨ret_eq (show Value.bool true = _ by rw [show risesB mk l = true from decide_eq_true (fun j h => hno.out j h (by omega))]), hB⟩

theorem keys_n (A : Option Addr) (c n : Nat) (l : List ByteArray) (mk : Int) (w : World) (hn : n = l.length) (hR : Rd w 1 A n (scells l)) (hl : l.length * 16 ≤ 140737488355328) (hv : ∀ p ∈ l, p.size ≤ 140737488355328) :
    Calls Try.prog 110 #[.slice A n c, .int .i64 mk] w fun e w' => e = .returned (.bool (risesB mk l)) ∧ Below w.heap.size w w' := by
  subst hn; exact keys_c A c l mk w hR hl hv

end Go.Proofs.Ytajkoeodabmgeaa
end

section
namespace Go.Proofs.Ytajkoeodabmgeaa
open Go.RowKit

/-- A row of the call's own, as a slice that reads. -/
theorem own_rd {w : World} {base : Nat} {e : TypeId} {size n : Nat} {v : Value} {xs : List Value} (h : w.ownsRow base e size v n xs) :
    ∃ A c, v = .slice A n c ∧ n ≤ c ∧ Rd w size A n xs := by
  obtain ⟨h1, h2⟩ := h
  rcases h2 with ⟨rfl, rfl⟩ | ⟨g, cap, cur, rfl, _, hh, hn, _, hs, ht⟩
  · exact ⟨none, 0, rfl, Nat.le_refl _, h1, fun h => absurd h (by omega)⟩
  · refine ⟨_, cap, rfl, hn, h1, fun _ => ⟨g, 0, rfl, fun j u hu => ?_⟩⟩
    rw [Nat.zero_add, cell_of_row w g j cur e (0, 0) hh]
    rw [← ht, List.getElem?_take] at hu
    split at hu
    · simpa using hu
    · cases hu

theorem own_below {w w' : World} {base : Nat} {e : TypeId} {size n : Nat} {v : Value} {xs : List Value} (h : w.ownsRow base e size v n xs) (hb : Below w.heap.size w w') : w'.ownsRow base e size v n xs := by
  obtain ⟨h1, h2⟩ := h
  rcases h2 with h2 | ⟨g, cap, cur, hv, hg, hh, hrest⟩
  · exact ⟨h1, .inl h2⟩
  · exact ⟨h1, .inr ⟨g, cap, cur, hv, hg, (hb.block g (Array.getElem?_eq_some_iff.1 hh).1).trans hh, hrest⟩⟩

theorem info9 : (Try.prog.info? 9).map (fun i => (i.zero, i.size, i.bytes)) = some (some (.string ⟨#[]⟩), 1, 16) := by kernel_rfl
theorem info31 : (Try.prog.info? 31).map (fun i => (i.zero, i.size, i.bytes)) = some (some (.agg #[.string ⟨#[]⟩, .string ⟨#[]⟩]), 2, 32) := by kernel_rfl
theorem one_cell_at (w : World) (t : TypeId) (v : Value) (j : Nat) (u : Value) (h : [v][j]? = some u) : (w.alloc (.cells #[v] t)).cell? ((⟨w.heap.size, 0, none⟩ : Addr).add j) = some u := by
  have hj : j = 0 := by
    cases j with
    | zero => rfl
    | succ j => simp at h
  subst hj
  simp only [List.getElem?_cons_zero, Option.some.injEq] at h
  subst h
  show (w.alloc (.cells #[v] t)).cell? ⟨w.heap.size, 0, none⟩ = _
  rw [cell_of_row _ _ 0 _ _ _ (heap_alloc_new w _)]
  rfl

end Go.Proofs.Ytajkoeodabmgeaa
end

section
namespace Go.Proofs.Ytajkoeodabmgeaa
open Go.RowKit
set_option maxHeartbeats 2000000
set_option maxRecDepth 100000
attribute [local go_sem] grow_cell grow_frozen grow_size

def shapedB (pg : Int) (wd : Nat) (nd : NodeD) : Bool := decide (shaped pg wd nd)

theorem shapedR_leaf (pg : Int) (wd : Nat) (A0 A1 A2 : Option Addr) (c0 c1 c2 : Nat) (nd : NodeD) (w : World) (hr : right pg wd = true) (hN : RdN w A0 c0 A1 c1 A2 c2 nd) (hlf : leafD nd) :
    Calls Try.prog 91 #[vF pg wd, vN A0 c0 A1 c1 A2 c2 nd] w fun e w' => e = .returned (.bool (shapedB pg wd nd)) ∧ Below w.heap.size w w' := by
  obtain ⟨⟨h0, h1⟩, h2, h3⟩ := right_spec hr
  obtain ⟨i0, hi, hz0, hz1, hz2⟩ := info_parts info9
  have hlf' : decide (nd.seps.length = 0 ∧ nd.kids.length = 0) = true := decide_eq_true hlf
  have HL' := Lib.hid hlf'
  have HL := Lib.hid hlf
  have hPl := hN.hp
  have HPK := Lib.hid hN.pk
  have HN := Lib.hid hN
  clear hlf hlf' hr hN
  go_enter Try.func91, Try.ntmps91
  go_wp2_with (first
    | (go_at_call 70; refine (refLeaf_c _ _ _ _ _ _ _ _ _ _ true HL'.out).mono ?_; rintro e w1 ⟨rfl, hb⟩; have hBB := below_first hb; clear hb; obtain ⟨⟨q0, q1⟩, ⟨q2, q3, q4⟩, q5⟩ := two_boxes hBB))
  go_loopw [5, 6] (fun v i wr => ∃ k : Nat, k ≤ nd.pairs.length ∧ i = .int .i64 k ∧ wr.ownsRow (w.heap.size + 1 + 1) 9 1 v k (scells ((nd.pairs.take k).map (·.k))) ∧ Hid (∀ j (h : j < nd.pairs.length), j < k → (nd.pairs[j].v.size : Int) ≤ pg / 8) ∧
      Below (w.heap.size + 1 + 1) ((w.alloc (.cells #[.int .i64 pg, .int .i64 (wd : Int)] 24)).alloc (.cells #[.slice A0 nd.pairs.length c0, .slice A1 nd.seps.length c1, .slice A2 nd.kids.length c2] 29)) wr) (fun _ i _ => nd.pairs.length - (intOf i).toNat)
  case atStart => exact ⟨0, Nat.zero_le _, rfl, World.ownsRow_nil _ _ _ _, fun j h h' => absurd h' (by omega), hBB⟩
  case round =>
    clear hBB q0 q1 q2 q3 q4 q5
    obtain ⟨k, hk, rfl, hown, hno, hB⟩ := hrel
    obtain ⟨⟨q0, q1⟩, ⟨q2, q3, q4⟩, q5⟩ := two_boxes hB
    have hP := HN.out.boxes hB
    by_cases hlt : k < nd.pairs.length
    · obtain ⟨ab, ao, rfl, hk0, hk1⟩ := pairs_at hP.pairs hlt
      clear hP
      have hsz := hB.size
      simp only [World.size_alloc] at hsz
      go_wp2_with (at_builtin; refine wpList_append_own _ rfl _ _ 26 rfl (w.heap.size + 1 + 1) 9 i0 (.string ⟨#[]⟩) 1 16 Try.underlying26 hi hz0 hz1 hz2 rfl (by decide) _ _ _ rfl (hown.alloc _) ⟨wr.heap.size, 0, none⟩ 1 1 [.string nd.pairs[k].k] rfl rfl (fun j u h => one_cell_at wr 9 _ j u h) (by simp [Value.oneCell']) (by unfold maxLen; omega) (by omega) (by simp; omega) ?_; intro v' w2 hown' hgrow _; have hB2 := (hB.alloc (by omega) _).grown hgrow (by simp; omega) (fun k e => (hown.lt k e).1); clear hgrow hown hB q0 q1 q2 q3 q4 q5 hk0 hk1; obtain ⟨⟨q0, q1⟩, ⟨q2, q3, q4⟩, q5⟩ := two_boxes hB2; obtain ⟨ab', ao', he, hk0, hk1⟩ := pairs_at (HN.out.boxes hB2).pairs hlt; cases he; have q6 : w.heap.size < w2.heap.size := (by omega); have habl : ab < w2.heap.size := World.block_lt_of_cell? _ _ hk0)
      by_cases hx : pg / 8 < (nd.pairs[k].v.size : Int)
      · refine wp_region_grow (by kernel_rfl) (by kernel_rfl) ?_
        repeat (any_goals (first | go_big_quiet_step (fail) | quiet_step (fail)))
        refine wpQuiet_nil ?_
        intro w3 hb
        go_wp2
        go_ret
        exact ⟨ret_eq (show Value.bool false = _ by
          rw [show shapedB pg wd nd = false from decide_eq_false (fun h => by
            rw [shaped, if_pos HL.out] at h
            exact h.2 ⟨_, List.getElem_mem hlt, hx⟩)]), below_s0 (below_aa (hB2.mono (by simp))) (by omega) hb⟩
      · refine wp_region_grow (by kernel_rfl) (by kernel_rfl) ?_
        repeat (any_goals (first | go_big_quiet_step (fail) | quiet_step (fail)))
        refine wpQuiet_nil ?_
        intro w3 hb
        go_wp2
        go_roundw
        case rel => exact ⟨k + 1, by omega, by go_num, own_below (by rw [List.take_succ_eq_append_getElem hlt, List.map_append, scells, List.map_append]; exact hown') hb, fun j h h' => by
          by_cases e : j = k
          · subst e; omega
          · exact hno.out j h (by omega), below_s0 hB2 (by omega) hb⟩
        case measure => simp [intOf]; omega
    · obtain rfl : k = nd.pairs.length := by omega
      rw [List.take_length] at hown
      obtain ⟨Ak, ck, rfl, hnc, hRd⟩ := own_rd hown
      have hfin : risesB (pg / 16) (nd.pairs.map (·.k)) = shapedB pg wd nd := by
        unfold risesB shapedB
        rw [Bool.eq_iff_iff, decide_eq_true_iff, decide_eq_true_iff, shaped, if_pos HL.out]
        constructor
        · intro h
          refine ⟨h, ?_⟩
          rintro ⟨p, hp, hv⟩
          obtain ⟨j, hj, e⟩ := List.getElem_of_mem hp
          subst e
          have := hno.out j hj hj
          omega
        · exact fun h => h.1
      have HF := Lib.hid hfin
      have hw := below_aa (hB.mono (by simp))
      have hsz := hw.size
      clear hfin hown hP hlt
      go_wp2_with (go_at_call 110; refine (keys_n Ak ck _ (nd.pairs.map (·.k)) (pg / 16) _ (by simp) hRd (by simp; omega) (by intro s hs; obtain ⟨p, hp, rfl⟩ := List.mem_map.1 hs; exact (HPK.out p hp).1)).mono ?_; rw [HF.out]; rintro e w3 ⟨rfl, hb⟩)
      go_ret
      exact ⟨rfl, below_s0 hw hsz hb⟩

end Go.Proofs.Ytajkoeodabmgeaa
end

section
namespace Go.Proofs.Ytajkoeodabmgeaa
open Go.RowKit
set_option maxHeartbeats 2000000
set_option maxRecDepth 100000
attribute [local go_sem] grow_cell grow_frozen grow_size

/-- A load of a digest out of the middle of a block, in a region that draws its order. -/
theorem wpQuiet_load83 {w : World} {ops : Array Oper} {Q : Act → Prop} {a : Act} {o : Oper} {rest : List Oper} (hw : Region.wanted o (yielded ops a.tmps) = true) (x : Operand) (ho : o.op = .load 83 x)
    (b off : Nat) (hx : a.eval x = .pointer (some ⟨b, off, none⟩)) (ds : List Int) (hl : ds.length = 32) (hr : w.rangeAt b off (ds.map (Value.int .u8)))
    (h : wpQuiet Try.prog ops (fun w' => ∃ x, w' = grow w x) Q rest (a.put o.dst (.agg (vD ds)))) : wpQuiet Try.prog ops (fun w' => ∃ x, w' = grow w x) Q (o :: rest) a := by
  refine wpQuiet_step fun K hK => ?_
  rw [if_pos hw]
  refine ⟨.agg (vD ds), ?_, hK _ h⟩
  rintro w' ⟨e, rfl⟩
  have hr' : (grow w e).rangeAt b off (ds.map (Value.int .u8)) := fun j v hv => by
    have h1 := hr j v hv
    rw [grow_cell _ _ _ (World.block_lt_of_cell? _ _ h1)]
    exact h1
  unfold Oper.quietAt execOp
  simp only [ho, hx, Instr.loadAt, Instr.sureAddr, Sem.run_bind, Sem.run_pure, Result.andThen_ok, run_loadVar_mid (grow w e) b off 83 (ds.map (Value.int .u8)) _ hr' Try.underlying83 rfl (by rw [List.length_map, hl]; exact info83)]
  exact ⟨rfl, rfl⟩

theorem fitsR_b (wd : Nat) (ds : List Int) (w : World) (hl : ds.length = 32) (h2 : wd ≤ 32) (b : Bool) (hb : fitsB wd ds = b) :
    Calls Try.prog 111 #[.int .i64 wd, .agg (vD ds)] w fun e w' => e = .returned (.bool b) ∧ Below w.heap.size w w' := by
  subst hb; exact fitsR_c wd ds w hl h2

theorem keys_v (A : Option Addr) (c : Nat) (l : List ByteArray) (mk : Int) (w : World) (hR : Rd w 1 A l.length (scells l)) (hl : l.length * 16 ≤ 140737488355328) (hv : ∀ p ∈ l, p.size ≤ 140737488355328) (b : Bool) (hb : risesB mk l = b) :
    Calls Try.prog 110 #[.slice A l.length c, .int .i64 mk] w fun e w' => e = .returned (.bool b) ∧ Below w.heap.size w w' := by
  subst hb; exact keys_c A c l mk w hR hl hv

theorem shapedR_branch (pg : Int) (wd : Nat) (A0 A1 A2 : Option Addr) (c0 c1 c2 : Nat) (nd : NodeD) (w : World) (hr : right pg wd = true) (hN : RdN w A0 c0 A1 c1 A2 c2 nd) (hlf : ¬ leafD nd) :
    Calls Try.prog 91 #[vF pg wd, vN A0 c0 A1 c1 A2 c2 nd] w fun e w' => e = .returned (.bool (shapedB pg wd nd)) ∧ Below w.heap.size w w' := by
  obtain ⟨⟨h0, h1⟩, h2, h3⟩ := right_spec hr
  have hlf' : decide (nd.seps.length = 0 ∧ nd.kids.length = 0) = false := decide_eq_false hlf
  have HL' := Lib.hid hlf'
  have hfin : shapedB pg wd nd = decide (nd.pairs.length = 0 ∧ 2 ≤ nd.kids.length ∧ nd.seps.length + 1 = nd.kids.length ∧ (¬ ∃ k ∈ nd.kids, fitsB wd k.sum = false) ∧ rises (pg / 16) nd.seps) := by
    unfold shapedB
    simp only [shaped, if_neg hlf]
  have HF := Lib.hid hfin
  have hkl := hN.hk
  have hsl := hN.hs
  have HKK := Lib.hid hN.kk
  have HSK := Lib.hid hN.sk
  have HN := Lib.hid hN
  clear hlf hlf' hr hN hfin
  have hcase : (¬ nd.pairs.length = 0) ∨ (nd.pairs.length = 0 ∧ ¬ 2 ≤ nd.kids.length) ∨ (nd.pairs.length = 0 ∧ 2 ≤ nd.kids.length ∧ ¬ nd.seps.length + 1 = nd.kids.length) ∨ (nd.pairs.length = 0 ∧ 2 ≤ nd.kids.length ∧ nd.seps.length + 1 = nd.kids.length) := by omega
  rcases hcase with hp | ⟨hp, hk⟩ | ⟨hp, hk, hs⟩ | ⟨hp, hk, hs⟩
  · have hp1 : 0 < nd.pairs.length := by omega
    have HP := Lib.hid hp
    clear hp
    go_enter Try.func91, Try.ntmps91
    go_wp2_with (first
      | (go_at_call 70; refine (refLeaf_c _ _ _ _ _ _ _ _ _ _ false HL'.out).mono ?_; rintro e w1 ⟨rfl, hb⟩; have hBB := below_first hb; clear hb; obtain ⟨⟨q0, q1⟩, ⟨q2, q3, q4⟩, q5⟩ := two_boxes hBB))
    go_ret
    exact ⟨ret_eq (show Value.bool false = _ by rw [HF.out]; exact congrArg Value.bool (decide_eq_false (fun h => HP.out h.1)).symm), below_aa (hBB.mono (by simp))⟩
  · have HP := Lib.hid hp
    have hp1 : ¬ 0 < nd.pairs.length := by omega
    have hk1 : nd.kids.length < 2 := by omega
    have HK := Lib.hid hk
    clear hp hk
    go_enter Try.func91, Try.ntmps91
    go_wp2_with (first
      | (go_at_call 70; refine (refLeaf_c _ _ _ _ _ _ _ _ _ _ false HL'.out).mono ?_; rintro e w1 ⟨rfl, hb⟩; have hBB := below_first hb; clear hb; obtain ⟨⟨q0, q1⟩, ⟨q2, q3, q4⟩, q5⟩ := two_boxes hBB))
    go_ret
    exact ⟨ret_eq (show Value.bool false = _ by rw [HF.out]; exact congrArg Value.bool (decide_eq_false (fun h => HK.out h.2.1)).symm), below_aa (hBB.mono (by simp))⟩
  · have HP := Lib.hid hp
    have hp1 : ¬ 0 < nd.pairs.length := by omega
    have hk1 : ¬ nd.kids.length < 2 := by omega
    have hs1 : ((nd.seps.length : Int) != (nd.kids.length : Int) - 1) = true := by rw [bne_iff_ne]; omega
    have HS := Lib.hid hs
    clear hp hk hs
    go_enter Try.func91, Try.ntmps91
    go_wp2_with (first
      | (go_at_call 70; refine (refLeaf_c _ _ _ _ _ _ _ _ _ _ false HL'.out).mono ?_; rintro e w1 ⟨rfl, hb⟩; have hBB := below_first hb; clear hb; obtain ⟨⟨q0, q1⟩, ⟨q2, q3, q4⟩, q5⟩ := two_boxes hBB))
    go_ret
    exact ⟨ret_eq (show Value.bool false = _ by rw [HF.out]; exact congrArg Value.bool (decide_eq_false (fun h => HS.out h.2.2.1)).symm), below_aa (hBB.mono (by simp))⟩
  · have HP := Lib.hid hp
    have hp1 : ¬ 0 < nd.pairs.length := by omega
    have hk1 : ¬ nd.kids.length < 2 := by omega
    have hs1 : ((nd.seps.length : Int) != (nd.kids.length : Int) - 1) = false := by rw [bne_eq_false_iff_eq]; omega
    have HS := Lib.hid hs
    have HK := Lib.hid hk
    clear hp hk hs
    go_enter Try.func91, Try.ntmps91
    go_wp2_with (first
      | (go_at_call 70; refine (refLeaf_c _ _ _ _ _ _ _ _ _ _ false HL'.out).mono ?_; rintro e w1 ⟨rfl, hb⟩; have hBB := below_first hb; clear hb; obtain ⟨⟨q0, q1⟩, ⟨q2, q3, q4⟩, q5⟩ := two_boxes hBB))
    go_loopw [7] (fun i wr => ∃ k : Nat, k ≤ nd.kids.length ∧ i = .int .i64 k ∧ Hid (∀ j (h : j < nd.kids.length), j < k → fitsB wd nd.kids[j].sum = true) ∧
      Below (w.heap.size + 1 + 1) ((w.alloc (.cells #[.int .i64 pg, .int .i64 (wd : Int)] 24)).alloc (.cells #[.slice A0 nd.pairs.length c0, .slice A1 nd.seps.length c1, .slice A2 nd.kids.length c2] 29)) wr) (fun i _ => nd.kids.length - (intOf i).toNat)
    case atStart => exact ⟨0, Nat.zero_le _, rfl, fun j h h' => absurd h' (by omega), hBB⟩
    case round =>
      clear hBB q0 q1 q2 q3 q4 q5
      obtain ⟨k, hk, rfl, hno, hB⟩ := hrel
      obtain ⟨⟨q0, q1⟩, ⟨q2, q3, q4⟩, q5⟩ := two_boxes hB
      have q6 : w.heap.size < wr.heap.size := by omega
      by_cases hlt : k < nd.kids.length
      · obtain ⟨ab, ao, rfl, hk0⟩ := kids_at (HN.out.boxes hB).kids HKK.out hlt
        have hsum := HKK.out _ (List.getElem_mem hlt)
        have hk1 : wr.rangeAt ab (ao + k * 33 + 1) (nd.kids[k].sum.map (Value.int .u8)) := fun j v hv => by
          have := hk0 (j + 1) v (by simp only [KidD.cells, List.getElem?_cons_succ]; exact hv)
          rwa [show ao + k * 33 + (j + 1) = ao + k * 33 + 1 + j by omega] at this
        have HSUM := Lib.hid hsum
        have HK1 := Lib.hid hk1
        have hki : (k : Int) < nd.kids.length := by omega
        clear hk0 hk1 hsum
        go_wp2
        cases hx : fitsB wd nd.kids[k].sum with
        | true =>
          have HX := Lib.hid hx
          clear hx
          refine wp_region_grow (by kernel_rfl) (by kernel_rfl) ?_
          repeat (any_goals (first | (refine wpQuiet_load83 (o := ⟨some 76, _, _, _, _, _⟩) rfl (.tmp 75) rfl ab _ rfl nd.kids[k].sum HSUM.out HK1.out ?_) | go_big_quiet_step ((go_at_call 111; exact quiet_below (fitsR_b wd _ _ HSUM.out (by omega) _ HX.out))) | quiet_step ((go_at_call 111; exact quiet_below (fitsR_b wd _ _ HSUM.out (by omega) _ HX.out)))))
          refine wpQuiet_nil ?_
          intro w3 hb
          go_wp2
          go_roundw
          case rel => exact ⟨k + 1, by omega, by go_num, fun j h h' => by
            by_cases e : j = k
            · subst e; exact HX.out
            · exact hno.out j h (by omega), below_s0 hB (by omega) hb⟩
          case measure => simp [intOf]; omega
        | false =>
          have HX := Lib.hid hx
          clear hx
          refine wp_region_grow (by kernel_rfl) (by kernel_rfl) ?_
          repeat (any_goals (first | (refine wpQuiet_load83 (o := ⟨some 76, _, _, _, _, _⟩) rfl (.tmp 75) rfl ab _ rfl nd.kids[k].sum HSUM.out HK1.out ?_) | go_big_quiet_step ((go_at_call 111; exact quiet_below (fitsR_b wd _ _ HSUM.out (by omega) _ HX.out))) | quiet_step ((go_at_call 111; exact quiet_below (fitsR_b wd _ _ HSUM.out (by omega) _ HX.out)))))
          refine wpQuiet_nil ?_
          intro w3 hb
          go_wp2
          go_ret
          exact ⟨ret_eq (show Value.bool false = _ by rw [HF.out]; exact congrArg Value.bool (decide_eq_false (fun h => h.2.2.2.1 ⟨_, List.getElem_mem hlt, HX.out⟩)).symm), below_s0 (below_aa (hB.mono (by simp))) (by omega) hb⟩
      · have hfin : risesB (pg / 16) nd.seps = shapedB pg wd nd := by
          rw [HF.out, risesB, Bool.eq_iff_iff, decide_eq_true_iff, decide_eq_true_iff]
          constructor
          · intro h
            refine ⟨HP.out, HK.out, HS.out, ?_, h⟩
            rintro ⟨p, hp, hv⟩
            obtain ⟨j, hj, e⟩ := List.getElem_of_mem hp
            subst e
            rw [hno.out j hj (by omega)] at hv
            cases hv
          · exact fun h => h.2.2.2.2
        have HF2 := Lib.hid hfin
        have hw := below_aa (hB.mono (by simp))
        clear hfin
        go_wp2_with (go_at_call 110; refine (keys_v A1 c1 nd.seps (pg / 16) _ (HN.out.boxes hB).seps hsl HSK.out _ HF2.out).mono ?_; rintro e w3 ⟨rfl, hb⟩)
        go_ret
        exact ⟨rfl, below_s0 hw (by omega) hb⟩

theorem shapedR_c (pg : Int) (wd : Nat) (A0 A1 A2 : Option Addr) (c0 c1 c2 : Nat) (nd : NodeD) (w : World) (hr : right pg wd = true) (hN : RdN w A0 c0 A1 c1 A2 c2 nd) (b : Bool) (hb : shapedB pg wd nd = b) :
    Calls Try.prog 91 #[vF pg wd, vN A0 c0 A1 c1 A2 c2 nd] w fun e w' => e = .returned (.bool b) ∧ Below w.heap.size w w' := by
  subst hb
  by_cases h : leafD nd
  · exact shapedR_leaf pg wd A0 A1 A2 c0 c1 c2 nd w hr hN h
  · exact shapedR_branch pg wd A0 A1 A2 c0 c1 c2 nd w hr hN h

theorem refRight_v (pg wd : Int) (w : World) (b : Bool) (hb : right pg wd = b) :
    Calls Try.prog 66 #[vF pg wd] w fun e w' => e = .returned (.bool b) ∧ Below w.heap.size w w' := by
  subst hb; exact refRight_c pg wd w

theorem checkE_right {pg : Int} {wd : Nat} {nd : NodeD} (h : right pg wd = true) : checkE pg wd nd = if shapedB pg wd nd = true then 0 else 70 := by
  simp [checkE, h, shapedB]

theorem refCheck_c (pg wd : Int) (A0 A1 A2 : Option Addr) (c0 c1 c2 : Nat) (nd : NodeD) (w : World) (hN : RdN w A0 c0 A1 c1 A2 c2 nd) :
    Calls Try.prog 69 #[vF pg wd, vN A0 c0 A1 c1 A2 c2 nd] w fun e w' => e = .returned (.int .i64 (checkE pg wd nd)) ∧ Below w.heap.size w w' := by
  have HN := Lib.hid hN
  clear hN
  cases hr : right pg wd with
  | false =>
    have HR := Lib.hid hr
    clear hr
    go_enter Try.func69, Try.ntmps69
    go_wp2_with (go_at_call 66; refine (refRight_v pg wd _ _ HR.out).mono ?_; rintro e w1 ⟨rfl, hb⟩)
    go_ret
    exact ⟨ret_eq (show Value.int IntKind.i64 2 = _ by simp [checkE, HR.out]), below_aa hb⟩
  | true =>
    obtain ⟨wn, rfl⟩ : ∃ n : Nat, wd = n := ⟨wd.toNat, by have := right_spec hr; omega⟩
    have HR := Lib.hid hr
    have HC := Lib.hid (checkE_right (nd := nd) hr)
    clear hr
    cases hs : shapedB pg wn nd
    all_goals
      have HS := Lib.hid hs
      clear hs
      go_enter Try.func69, Try.ntmps69
      go_wp2_with (first
        | (go_at_call 66; refine (refRight_v pg wn _ _ HR.out).mono ?_; rintro e w1 ⟨rfl, hb⟩; have hBB := below_first hb; clear hb; obtain ⟨⟨q0, q1⟩, ⟨q2, q3, q4⟩, q5⟩ := two_boxes hBB)
        | (go_at_call 91; refine (shapedR_c pg wn A0 A1 A2 c0 c1 c2 nd _ HR.out (HN.out.boxes hBB) _ HS.out).mono ?_; rintro e w2 ⟨rfl, hb⟩))
      go_ret
      exact ⟨ret_eq (by rw [HC.out, HS.out]; rfl), below_s0 (below_aa (hBB.mono (by simp))) (by omega) hb⟩

theorem refCheck_v (pg wd : Int) (A0 A1 A2 : Option Addr) (c0 c1 c2 : Nat) (nd : NodeD) (w : World) (hN : RdN w A0 c0 A1 c1 A2 c2 nd) (v : Int) (hv : checkE pg wd nd = v) :
    Calls Try.prog 69 #[vF pg wd, vN A0 c0 A1 c1 A2 c2 nd] w fun e w' => e = .returned (.int .i64 v) ∧ Below w.heap.size w w' := by
  subst hv; exact refCheck_c pg wd A0 A1 A2 c0 c1 c2 nd w hN

end Go.Proofs.Ytajkoeodabmgeaa
end

section
namespace Go.Proofs.Ytajkoeodabmgeaa
open Go.RowKit
set_option maxHeartbeats 400000
set_option maxRecDepth 100000
attribute [local go_sem] grow_cell grow_frozen grow_size

/-- One byte out of memory, as a text. -/
theorem conv1 (W : World) (b o : Nat) : (convert 118 9 (.slice (some ⟨b, o, none⟩) 1 1)).run Try.prog W = ((load ⟨b, o, none⟩).run Try.prog W).andThen fun c w' => match c with
    | .int .u8 n => .ok (.string ⟨#[UInt8.ofNat n.toNat]⟩) w'
    | _ => .halt (.stuck "bytesToString: byte expected") w' := by
  unfold convert
  simp only [Sem.run_bind, run_underlying Try.underlying118, run_underlying Try.underlying9, run_underlying Try.underlying5, Result.andThen_ok, Conv.bytesToString, loadCells, loadCellsFrom]
  generalize hr : (load ⟨b, o, none⟩).run Try.prog W = r
  have h0 : (⟨b, o, none⟩ : Addr).add 0 = ⟨b, o, none⟩ := rfl
  rw [h0, hr]
  cases r with
  | halt h w' => simp [Result.andThen]
  | ok c w' =>
    cases c <;> simp [Sem.run_pure]
    rename_i k n
    cases k <;> simp [stuck, ByteArray.empty, ByteArray.push, ByteArray.emptyWithCapacity]
    rfl

attribute [local go_sem] conv1

theorem undrew {w w1 : World} (h : Below w.drew.heap.size w.drew w1) : Below w.heap.size w w1 := ⟨h.os, h.tape, h.output, h.size, h.block⟩

/-- The bytes of a free number. -/
def freeL (n : Nat) : List UInt8 := if n < 128 then [UInt8.ofNat n] else UInt8.ofNat (n % 128 + 128) :: freeL (n / 128)
termination_by n
decreasing_by omega
def freeS (n : Nat) : ByteArray := ⟨(freeL n).toArray⟩
theorem freeL_length (n : Nat) : (freeL n).length = cnt n := by
  induction n using Nat.strongRecOn with
  | ind n ih =>
    rw [freeL, cnt]
    split
    · rfl
    · rw [List.length_cons, ih (n / 128) (by omega)]
theorem freeS_size (n : Nat) : (freeS n).size = cnt n := by
  rw [← freeL_length n]; simp [freeS, ByteArray.size]
theorem cons_bytes (b : UInt8) (l : List UInt8) : ((⟨#[b]⟩ : ByteArray) ++ ⟨l.toArray⟩) = ⟨(b :: l).toArray⟩ := by
  apply ByteArray.ext
  rw [ByteArray.data_append]
  simp

theorem free_small (n : Nat) (w : World) (h : n < 128) :
    Calls Try.prog 92 #[.int .u64 n] w fun e w' => e = .returned (.string (freeS n)) ∧ Below w.heap.size w w' := by
  go_enter Try.func92, Try.ntmps92
  go_wp2
  go_ret
  exact ⟨ret_eq (show Value.string ⟨#[UInt8.ofNat (n : Int).toNat]⟩ = _ by rw [freeS, freeL, if_pos h]; rfl), (Below.refl _ _).alloc (Nat.le_refl _) _⟩

theorem free_c (k : Nat) : ∀ (m : Int) (w : World), 0 ≤ m → m ≤ 140737488355328 → m.toNat = k →
    Calls Try.prog 92 #[.int .u64 m] w fun e w' => e = .returned (.string (freeS k)) ∧ Below w.heap.size w w' := by
  induction k using Nat.strongRecOn with
  | ind k ih =>
    intro m w h0 hn hk
    by_cases h : m < 128
    · obtain ⟨n, rfl⟩ := Int.eq_ofNat_of_zero_le h0
      obtain rfl : n = k := by omega
      exact free_small n w (by omega)
    · have h1 := ih (m / 128).toNat (by omega)
      have hc : freeS k = (⟨#[UInt8.ofNat (m % 128 + 128).toNat]⟩ : ByteArray) ++ freeS (m / 128).toNat := by
        rw [freeS, freeS, cons_bytes, freeL, if_neg (by omega)]
        congr 3
        · congr 1; omega
        · congr 1; omega
      have hsz : (freeS (m / 128).toNat).size ≤ 1099511627777 := by
        rw [freeS_size]; have := cnt_le (m / 128).toNat; omega
      have H1 := Lib.hid h1
      have HC := Lib.hid hc
      have e1 : IntKind.u64.wrap (m.tdiv 128) = m / 128 := by rw [Int.tdiv_eq_ediv_of_nonneg h0]; exact IntWalk.u64_in _ (by omega)
      have E1 := Lib.hid e1
      clear e1 h1 ih hk hc
      go_enter Try.func92, Try.ntmps92
      go_wp2_with fail
      go_region_with (go_at_call 92; rw [E1.out]; refine (H1.out _ _ (by omega) (by omega) rfl).mono ?_; rintro e w1 ⟨rfl, hb⟩; obtain ⟨hcx, hfx⟩ := bcell (undrew hb); have y1 : w.heap.size < w1.heap.size + 1 := (by have := (undrew hb).size; (try simp only [World.size_alloc] at this); omega))
      all_goals
        go_wp2
        go_ret
        exact ⟨ret_eq (by rw [HC.out]; rfl), by
          have hu := undrew hb
          first
            | exact below_a hu
            | exact Below.alloc hu hu.size _⟩

theorem freeR_c (n : Nat) (w : World) (hn : n ≤ 140737488355328) :
    Calls Try.prog 92 #[.int .u64 (n : Int)] w fun e w' => e = .returned (.string (freeS n)) ∧ Below w.heap.size w w' :=
  free_c n n w (by omega) (by omega) rfl

end Go.Proofs.Ytajkoeodabmgeaa
end

section
namespace Go.Proofs.Ytajkoeodabmgeaa
open Go.RowKit
set_option maxHeartbeats 2000000
set_option maxRecDepth 100000
attribute [local go_sem] grow_cell grow_frozen grow_size freeS_size

theorem refSize_no (pg wd : Int) (A0 A1 A2 : Option Addr) (c0 c1 c2 : Nat) (nd : NodeD) (w : World) (hN : RdN w A0 c0 A1 c1 A2 c2 nd) (hc : ¬ checkE pg wd nd = 0) :
    Calls Try.prog 72 #[vF pg wd, vN A0 c0 A1 c1 A2 c2 nd] w fun e w' => e = .returned (.int .i64 (sizeE pg wd nd)) ∧ Below w.heap.size w w' := by
  have HN := Lib.hid hN
  have hne : (checkE pg wd nd != 0) = true := by rw [bne_iff_ne]; exact hc
  have HC := Lib.hid hc
  clear hc hN
  go_enter Try.func72, Try.ntmps72
  go_wp2_with (first
    | (go_at_call 69; refine (refCheck_c pg wd A0 A1 A2 c0 c1 c2 nd _ (HN.out.boxes below_start)).mono ?_; rintro e w1 ⟨rfl, hb⟩; have hBB := below_first hb; clear hb; obtain ⟨⟨q0, q1⟩, ⟨q2, q3, q4⟩, q5⟩ := two_boxes hBB))
  go_ret
  exact ⟨ret_eq (show Value.int IntKind.i64 0 = _ by rw [sizeE, if_neg HC.out]), below_aa (hBB.mono (by simp))⟩

theorem refSize_leaf (pg : Int) (wd : Nat) (A0 A1 A2 : Option Addr) (c0 c1 c2 : Nat) (nd : NodeD) (w : World) (hN : RdN w A0 c0 A1 c1 A2 c2 nd) (hc : checkE pg wd nd = 0) (hlf : leafD nd) :
    Calls Try.prog 72 #[vF pg wd, vN A0 c0 A1 c1 A2 c2 nd] w fun e w' => e = .returned (.int .i64 (sizeD wd nd)) ∧ Below w.heap.size w w' := by
  obtain ⟨hr, hsh⟩ := checkE_zero hc
  obtain ⟨⟨h0, h1⟩, h2, h3⟩ := right_spec hr
  have hlf' : decide (nd.seps.length = 0 ∧ nd.kids.length = 0) = true := decide_eq_true hlf
  have HL' := Lib.hid hlf'
  have HL := Lib.hid hlf
  have HC := Lib.hid hc
  have hpl := hN.hp
  have hkb : ∀ p ∈ nd.pairs, p.k.size ≤ 512 ∧ p.v.size ≤ 1024 := by
    simp only [shaped, hlf, if_true] at hsh
    intro p hp
    obtain ⟨i, hi, e⟩ := List.getElem_of_mem hp
    have a := (hsh.1 i (by simpa using hi)).1.2
    have b : ¬ pg / 8 < p.v.size := fun h => hsh.2 ⟨p, hp, h⟩
    simp only [List.getElem_map, e] at a
    omega
  have hpb : ∀ p ∈ nd.pairs, psz p ≤ 3074 := fun p hp => by
    have := hkb p hp; have := tx_le p.k; have := tx_le p.v; unfold psz; omega
  have HKB := Lib.hid hkb
  have HPB := Lib.hid hpb
  have hcl := cnt_le nd.pairs.length
  have HN := Lib.hid hN
  clear hlf' hlf hsh hkb hpb hr hc hN
  go_enter Try.func72, Try.ntmps72
  go_wp2_with (first
    | (go_at_call 69; refine (refCheck_v pg wd A0 A1 A2 c0 c1 c2 nd _ (HN.out.boxes below_start) 0 HC.out).mono ?_; rintro e w1 ⟨rfl, hb⟩; have hBB := below_first hb; clear hb; obtain ⟨⟨q0, q1⟩, ⟨q2, q3, q4⟩, q5⟩ := two_boxes hBB)
    | (go_at_call 70; refine (refLeaf_c _ _ _ _ _ _ _ _ _ _ true HL'.out).mono ?_; rintro e w2 ⟨rfl, hb⟩; have hBn := below_s0 hBB (by omega) hb; clear hBB hb q0 q1 q2 q3 q4 q5; have hBB := hBn; clear hBn; obtain ⟨⟨q0, q1⟩, ⟨q2, q3, q4⟩, q5⟩ := two_boxes hBB)
    | (go_at_call 92; refine (freeR_c _ _ (by omega)).mono ?_; rintro e w2 ⟨rfl, hb⟩; have hBn := below_s0 hBB (by omega) hb; clear hBB hb q0 q1 q2 q3 q4 q5; have hBB := hBn; clear hBn; obtain ⟨⟨q0, q1⟩, ⟨q2, q3, q4⟩, q5⟩ := two_boxes hBB))
  go_loopw [5, 6] (fun s i wr => ∃ k : Nat, k ≤ nd.pairs.length ∧ i = .int .i64 k ∧ s = .int .i64 ((1 + cnt nd.pairs.length + ((nd.pairs.take k).map psz).sum : Nat) : Int) ∧
      Below (w.heap.size + 1 + 1) ((w.alloc (.cells #[.int .i64 pg, .int .i64 (wd : Int)] 24)).alloc (.cells #[.slice A0 nd.pairs.length c0, .slice A1 nd.seps.length c1, .slice A2 nd.kids.length c2] 29)) wr) (fun _ i _ => nd.pairs.length - (intOf i).toNat)
  case atStart => exact ⟨0, Nat.zero_le _, rfl, by simp, hBB⟩
  case round =>
    clear hBB q0 q1 q2 q3 q4 q5
    obtain ⟨k, hk, rfl, rfl, hB⟩ := hrel
    have hBB := hB
    clear hB
    obtain ⟨⟨q0, q1⟩, ⟨q2, q3, q4⟩, q5⟩ := two_boxes hBB
    have hs := sum_take_le psz 3074 nd.pairs k HPB.out hk
    by_cases hlt : k < nd.pairs.length
    · obtain ⟨ab, ao, rfl, hk0, hk1⟩ := pairs_at (HN.out.boxes hBB).pairs hlt
      obtain ⟨hb2, hb3⟩ := HKB.out _ (List.getElem_mem hlt)
      have hst := Lib.hid (sum_take psz nd.pairs k hlt)
      have ht1 := cnt_le nd.pairs[k].k.size
      have ht2 := cnt_le nd.pairs[k].v.size
      generalize hS : ((nd.pairs.take k).map psz).sum = S at *
      have HS := Lib.hid hS
      clear hS
      go_wp2_with (first
        | (go_at_call 92; refine (freeR_c _ _ (by omega)).mono ?_; rintro e w2 ⟨rfl, hb⟩; have hBn := below_s0 hBB (by omega) hb; clear hBB hb q0 q1 q2 q3 q4 q5; have hBB := hBn; clear hBn; obtain ⟨⟨q0, q1⟩, ⟨q2, q3, q4⟩, q5⟩ := two_boxes hBB))
      go_roundw
      case rel => exact ⟨k + 1, by omega, by go_num, by rw [hst.out]; congr 1; simp only [psz, tx]; omega, hBB⟩
      case measure => simp [intOf]; omega
    · go_wp2
      go_ret
      exact ⟨ret_eq (show Value.int IntKind.i64 ((1 + cnt nd.pairs.length + ((nd.pairs.take k).map psz).sum : Nat) : Int) = _ by
        rw [show k = nd.pairs.length by omega, List.take_length, sizeD, if_pos HL.out]), below_aa (hBB.mono (by simp))⟩

theorem refSize_branch (pg : Int) (wd : Nat) (A0 A1 A2 : Option Addr) (c0 c1 c2 : Nat) (nd : NodeD) (w : World) (hN : RdN w A0 c0 A1 c1 A2 c2 nd) (hc : checkE pg wd nd = 0) (hlf : ¬ leafD nd) :
    Calls Try.prog 72 #[vF pg wd, vN A0 c0 A1 c1 A2 c2 nd] w fun e w' => e = .returned (.int .i64 (sizeD wd nd)) ∧ Below w.heap.size w w' := by
  obtain ⟨hr, hsh⟩ := checkE_zero hc
  obtain ⟨⟨h0, h1⟩, h2, h3⟩ := right_spec hr
  have hlf' : decide (nd.seps.length = 0 ∧ nd.kids.length = 0) = false := decide_eq_false hlf
  have HL' := Lib.hid hlf'
  have HL := Lib.hid hlf
  have HC := Lib.hid hc
  have hkl := hN.hk
  have hsl := hN.hs
  have hsb : ∀ s ∈ nd.seps, s.size ≤ 512 := by
    simp only [shaped, hlf, if_false] at hsh
    intro p hp
    obtain ⟨i, hi, e⟩ := List.getElem_of_mem hp
    have a := (hsh.2.2.2.2 i (by simpa using hi)).1.2
    rw [e] at a
    omega
  have htb : ∀ s ∈ nd.seps, tx s ≤ 1025 := fun p hp => by
    have := hsb p hp; have := tx_le p; omega
  have HSB := Lib.hid hsb
  have HTB := Lib.hid htb
  have hcl := cnt_le nd.kids.length
  have hmul : (nd.kids.length : Int) * (4 + (wd : Int)) ≤ 140737488355328 := by
    have a : (nd.kids.length : Int) * (4 + (wd : Int)) ≤ (nd.kids.length : Int) * 36 := Int.mul_le_mul_of_nonneg_left (by omega) (by omega)
    omega
  have hmul0 : 0 ≤ (nd.kids.length : Int) * (4 + (wd : Int)) := Int.mul_nonneg (by omega) (by omega)
  generalize hM : (nd.kids.length : Int) * (4 + (wd : Int)) = M at hmul hmul0
  have HM := Lib.hid hM
  have HN := Lib.hid hN
  clear hlf' hlf hsh hsb htb hr hM hc hN
  go_enter Try.func72, Try.ntmps72
  go_wp2_with (first
    | (go_at_call 69; refine (refCheck_v pg wd A0 A1 A2 c0 c1 c2 nd _ (HN.out.boxes below_start) 0 HC.out).mono ?_; rintro e w1 ⟨rfl, hb⟩; have hBB := below_first hb; clear hb; obtain ⟨⟨q0, q1⟩, ⟨q2, q3, q4⟩, q5⟩ := two_boxes hBB)
    | (go_at_call 70; refine (refLeaf_c _ _ _ _ _ _ _ _ _ _ false HL'.out).mono ?_; rintro e w2 ⟨rfl, hb⟩; have hBn := below_s0 hBB (by omega) hb; clear hBB hb q0 q1 q2 q3 q4 q5; have hBB := hBn; clear hBn; obtain ⟨⟨q0, q1⟩, ⟨q2, q3, q4⟩, q5⟩ := two_boxes hBB))
  have q6 : w.heap.size < w2.heap.size := by omega
  refine wp_region_grow (by kernel_rfl) (by kernel_rfl) ?_
  repeat (any_goals (first | go_big_quiet_step ((go_at_call 92; exact quiet_below (freeR_c nd.kids.length _ (by omega)))) | quiet_step ((go_at_call 92; exact quiet_below (freeR_c nd.kids.length _ (by omega))))))
  refine wpQuiet_nil ?_
  intro w3 hb
  have ew : wrap64 (1 + (cnt nd.kids.length : Int) + wrap64 ((nd.kids.length : Int) * (4 + (wd : Int)))) = 1 + (cnt nd.kids.length : Int) + M := by rw [HM.out]; unfold wrap64; omega
  simp only [ew]
  have hBn := below_s0 hBB (by omega) hb
  clear hBB hb ew q0 q1 q2 q3 q4 q5 q6
  have hBB := hBn
  clear hBn
  obtain ⟨⟨q0, q1⟩, ⟨q2, q3, q4⟩, q5⟩ := two_boxes hBB
  go_wp2
  go_loopw [9, 10] (fun s i wr => ∃ k : Nat, k ≤ nd.seps.length ∧ i = .int .i64 k ∧ s = .int .i64 (1 + (cnt nd.kids.length : Int) + M + ((nd.seps.take k).map tx).sum) ∧
      Below (w.heap.size + 1 + 1) ((w.alloc (.cells #[.int .i64 pg, .int .i64 (wd : Int)] 24)).alloc (.cells #[.slice A0 nd.pairs.length c0, .slice A1 nd.seps.length c1, .slice A2 nd.kids.length c2] 29)) wr) (fun _ i _ => nd.seps.length - (intOf i).toNat)
  case atStart => exact ⟨0, Nat.zero_le _, rfl, by simp, hBB⟩
  case round =>
    clear hBB q0 q1 q2 q3 q4 q5
    obtain ⟨k, hk, rfl, rfl, hB⟩ := hrel
    have hBB := hB
    clear hB
    obtain ⟨⟨q0, q1⟩, ⟨q2, q3, q4⟩, q5⟩ := two_boxes hBB
    have hs := sum_take_le tx 1025 nd.seps k HTB.out hk
    by_cases hlt : k < nd.seps.length
    · obtain ⟨ab, ao, rfl, hk0⟩ := seps_at (HN.out.boxes hBB).seps hlt
      have hb1 := HSB.out _ (List.getElem_mem hlt)
      have hst := Lib.hid (sum_take tx nd.seps k hlt)
      have ht1 := cnt_le nd.seps[k].size
      generalize hS : ((nd.seps.take k).map tx).sum = S at *
      have HS := Lib.hid hS
      clear hS
      go_wp2_with (first
        | (go_at_call 92; refine (freeR_c _ _ (by omega)).mono ?_; rintro e w2 ⟨rfl, hb⟩; have hBn := below_s0 hBB (by omega) hb; clear hBB hb q0 q1 q2 q3 q4 q5; have hBB := hBn; clear hBn; obtain ⟨⟨q0, q1⟩, ⟨q2, q3, q4⟩, q5⟩ := two_boxes hBB))
      go_roundw
      case rel => exact ⟨k + 1, by omega, by go_num, by rw [hst.out]; congr 1; simp only [tx]; omega, hBB⟩
      case measure => simp [intOf]; omega
    · go_wp2
      go_ret
      exact ⟨ret_eq (show Value.int IntKind.i64 (1 + (cnt nd.kids.length : Int) + M + ((nd.seps.take k).map tx).sum) = _ by
        rw [show k = nd.seps.length by omega, List.take_length, sizeD, if_neg HL.out, ← HM.out]; congr 1), below_aa (hBB.mono (by simp))⟩

theorem refSize_c (pg wd : Int) (A0 A1 A2 : Option Addr) (c0 c1 c2 : Nat) (nd : NodeD) (w : World) (hN : RdN w A0 c0 A1 c1 A2 c2 nd) :
    Calls Try.prog 72 #[vF pg wd, vN A0 c0 A1 c1 A2 c2 nd] w fun e w' => e = .returned (.int .i64 (sizeE pg wd nd)) ∧ Below w.heap.size w w' := by
  by_cases hc : checkE pg wd nd = 0
  · obtain ⟨hr, _⟩ := checkE_zero hc
    obtain ⟨wn, rfl⟩ : ∃ n : Nat, wd = n := ⟨wd.toNat, by have := right_spec hr; omega⟩
    have hfin : sizeE pg wn nd = sizeD wn nd := by rw [sizeE, if_pos hc]; rfl
    rw [hfin]
    by_cases h : leafD nd
    · exact refSize_leaf pg wn A0 A1 A2 c0 c1 c2 nd w hN hc h
    · exact refSize_branch pg wn A0 A1 A2 c0 c1 c2 nd w hN hc h
  · exact refSize_no pg wd A0 A1 A2 c0 c1 c2 nd w hN hc

end Go.Proofs.Ytajkoeodabmgeaa
end

section
namespace Go.Proofs.Ytajkoeodabmgeaa
open Go.RowKit
set_option maxHeartbeats 2000000
set_option maxRecDepth 100000
attribute [local go_sem] grow_cell grow_frozen grow_size freeS_size

theorem sizeD_le {pg : Int} {wd : Nat} {w : World} {A0 A1 A2 : Option Addr} {c0 c1 c2 : Nat} {nd : NodeD} (hN : RdN w A0 c0 A1 c1 A2 c2 nd) (hr : right pg wd = true) (hsh : shaped pg wd nd) : sizeD wd nd ≤ 36028797018963968 := by
  obtain ⟨⟨h0, h1⟩, h2, h3⟩ := right_spec hr
  have hp := hN.hp
  have hs := hN.hs
  have hk := hN.hk
  by_cases hl : leafD nd
  · rw [sizeD, if_pos hl]
    have hkb : ∀ p ∈ nd.pairs, psz p ≤ 3074 := by
      simp only [shaped, hl, if_true] at hsh
      intro p hp
      obtain ⟨i, hi, e⟩ := List.getElem_of_mem hp
      have a := (hsh.1 i (by simpa using hi)).1.2
      have b : ¬ pg / 8 < p.v.size := fun h => hsh.2 ⟨p, hp, h⟩
      simp only [List.getElem_map, e] at a
      have := tx_le p.k; have := tx_le p.v; unfold psz; omega
    have := sum_le psz 3074 nd.pairs hkb
    have := cnt_le nd.pairs.length
    omega
  · rw [sizeD, if_neg hl]
    have hkb : ∀ p ∈ nd.seps, tx p ≤ 1025 := by
      simp only [shaped, hl, if_false] at hsh
      intro p hp
      obtain ⟨i, hi, e⟩ := List.getElem_of_mem hp
      have a := (hsh.2.2.2.2 i (by simpa using hi)).1.2
      rw [e] at a
      have := tx_le p; omega
    have := sum_le tx 1025 nd.seps hkb
    have := cnt_le nd.kids.length
    have : nd.kids.length * (4 + wd) ≤ nd.kids.length * 36 := Nat.mul_le_mul_left _ (by omega)
    omega

theorem sizeE_bd {pg wd : Int} {w : World} {A0 A1 A2 : Option Addr} {c0 c1 c2 : Nat} {nd : NodeD} (hN : RdN w A0 c0 A1 c1 A2 c2 nd) : 0 ≤ sizeE pg wd nd ∧ sizeE pg wd nd ≤ 36028797018963968 := by
  unfold sizeE
  split
  · rename_i h
    obtain ⟨hr, hs⟩ := checkE_zero h
    obtain ⟨wn, rfl⟩ : ∃ n : Nat, wd = n := ⟨wd.toNat, by have := right_spec hr; omega⟩
    have := sizeD_le hN hr hs
    simp only [Int.toNat_natCast]
    omega
  · omega

theorem leafB_iff {pg wd : Int} {nd : NodeD} : leafB pg wd nd = decide (checkE pg wd nd = 0 ∧ leafD nd) := by
  unfold leafB
  rw [Bool.eq_iff_iff, decide_eq_true_iff, decide_eq_true_iff]
  constructor
  · rintro ⟨a, b⟩
    refine ⟨b, ?_⟩
    obtain ⟨_, hs⟩ := checkE_zero b
    by_cases h : leafD nd
    · exact h
    · rw [shaped, if_neg h] at hs; omega
  · rintro ⟨a, b⟩; exact ⟨b.2, a⟩

theorem branchB_iff {pg wd : Int} {nd : NodeD} : branchB pg wd nd = decide (checkE pg wd nd = 0 ∧ ¬ leafD nd) := by
  unfold branchB
  rw [Bool.eq_iff_iff, decide_eq_true_iff, decide_eq_true_iff]
  constructor
  · rintro ⟨a, b⟩
    exact ⟨b, fun h => by unfold leafD at h; omega⟩
  · rintro ⟨a, b⟩
    refine ⟨?_, a⟩
    obtain ⟨_, hs⟩ := checkE_zero a
    rw [shaped, if_neg b] at hs; omega

theorem refLeafK_c (pg wd : Int) (A0 A1 A2 : Option Addr) (c0 c1 c2 : Nat) (nd : NodeD) (w : World) (hN : RdN w A0 c0 A1 c1 A2 c2 nd) :
    Calls Try.prog 67 #[vF pg wd, vN A0 c0 A1 c1 A2 c2 nd] w fun e w' => e = .returned (.bool (leafB pg wd nd)) ∧ Below w.heap.size w w' := by
  have HN := Lib.hid hN
  clear hN
  by_cases hc : checkE pg wd nd = 0
  · by_cases hl : leafD nd
    all_goals
      have hlf : decide (nd.seps.length = 0 ∧ nd.kids.length = 0) = decide (leafD nd) := rfl
      have hfin : leafB pg wd nd = decide (leafD nd) := by rw [leafB_iff]; simp [hc, hl]
      simp only [hl, decide_true, decide_false] at hlf
      have HC := Lib.hid hc
      have HLF := Lib.hid hlf
      have HF := Lib.hid hfin
      have HL := Lib.hid hl
      clear hc hlf hfin hl
      go_enter Try.func67, Try.ntmps67
      go_wp2_with (first
        | (go_at_call 69; refine (refCheck_v pg wd A0 A1 A2 c0 c1 c2 nd _ (HN.out.boxes below_start) 0 HC.out).mono ?_; rintro e w1 ⟨rfl, hb⟩; have hBB := below_first hb; clear hb; obtain ⟨⟨q0, q1⟩, ⟨q2, q3, q4⟩, q5⟩ := two_boxes hBB)
        | (go_at_call 70; refine (refLeaf_c _ _ _ _ _ _ _ _ _ _ _ HLF.out).mono ?_; rintro e w2 ⟨rfl, hb⟩; have hBn := below_s0 hBB (by omega) hb; clear hBB hb q0 q1 q2 q3 q4 q5; have hBB := hBn; clear hBn; obtain ⟨⟨q0, q1⟩, ⟨q2, q3, q4⟩, q5⟩ := two_boxes hBB))
      go_ret
      exact ⟨ret_eq (by rw [HF.out]; simp [HL.out]), below_aa (hBB.mono (by simp))⟩
  · have hne : (checkE pg wd nd == 0) = false := by simp [hc]
    have hfin : leafB pg wd nd = false := by rw [leafB_iff]; simp [hc]
    have HF := Lib.hid hfin
    clear hc hfin
    go_enter Try.func67, Try.ntmps67
    go_wp2_with (first
      | (go_at_call 69; refine (refCheck_c pg wd A0 A1 A2 c0 c1 c2 nd _ (HN.out.boxes below_start)).mono ?_; rintro e w1 ⟨rfl, hb⟩; have hBB := below_first hb; clear hb; obtain ⟨⟨q0, q1⟩, ⟨q2, q3, q4⟩, q5⟩ := two_boxes hBB))
    go_ret
    exact ⟨ret_eq (by rw [HF.out]; rfl), below_aa (hBB.mono (by simp))⟩

theorem refBranchK_c (pg wd : Int) (A0 A1 A2 : Option Addr) (c0 c1 c2 : Nat) (nd : NodeD) (w : World) (hN : RdN w A0 c0 A1 c1 A2 c2 nd) :
    Calls Try.prog 87 #[vF pg wd, vN A0 c0 A1 c1 A2 c2 nd] w fun e w' => e = .returned (.bool (branchB pg wd nd)) ∧ Below w.heap.size w w' := by
  have HN := Lib.hid hN
  clear hN
  by_cases hc : checkE pg wd nd = 0
  · by_cases hl : leafD nd
    all_goals
      have hlf : decide (nd.seps.length = 0 ∧ nd.kids.length = 0) = decide (leafD nd) := rfl
      have hfin : branchB pg wd nd = decide (¬ leafD nd) := by rw [branchB_iff]; simp [hc, hl]
      simp only [hl, decide_true, decide_false] at hlf
      have HC := Lib.hid hc
      have HLF := Lib.hid hlf
      have HF := Lib.hid hfin
      have HL := Lib.hid hl
      clear hc hlf hfin hl
      go_enter Try.func87, Try.ntmps87
      go_wp2_with (first
        | (go_at_call 69; refine (refCheck_v pg wd A0 A1 A2 c0 c1 c2 nd _ (HN.out.boxes below_start) 0 HC.out).mono ?_; rintro e w1 ⟨rfl, hb⟩; have hBB := below_first hb; clear hb; obtain ⟨⟨q0, q1⟩, ⟨q2, q3, q4⟩, q5⟩ := two_boxes hBB)
        | (go_at_call 70; refine (refLeaf_c _ _ _ _ _ _ _ _ _ _ _ HLF.out).mono ?_; rintro e w2 ⟨rfl, hb⟩; have hBn := below_s0 hBB (by omega) hb; clear hBB hb q0 q1 q2 q3 q4 q5; have hBB := hBn; clear hBn; obtain ⟨⟨q0, q1⟩, ⟨q2, q3, q4⟩, q5⟩ := two_boxes hBB))
      go_ret
      exact ⟨ret_eq (by rw [HF.out]; simp [HL.out]), below_aa (hBB.mono (by simp))⟩
  · have hne : (checkE pg wd nd == 0) = false := by simp [hc]
    have hfin : branchB pg wd nd = false := by rw [branchB_iff]; simp [hc]
    have HF := Lib.hid hfin
    clear hc hfin
    go_enter Try.func87, Try.ntmps87
    go_wp2_with (first
      | (go_at_call 69; refine (refCheck_c pg wd A0 A1 A2 c0 c1 c2 nd _ (HN.out.boxes below_start)).mono ?_; rintro e w1 ⟨rfl, hb⟩; have hBB := below_first hb; clear hb; obtain ⟨⟨q0, q1⟩, ⟨q2, q3, q4⟩, q5⟩ := two_boxes hBB))
    go_ret
    exact ⟨ret_eq (by rw [HF.out]; rfl), below_aa (hBB.mono (by simp))⟩

theorem refFull_c (pg wd : Int) (A0 A1 A2 : Option Addr) (c0 c1 c2 : Nat) (nd : NodeD) (w : World) (hN : RdN w A0 c0 A1 c1 A2 c2 nd) :
    Calls Try.prog 36 #[vF pg wd, vN A0 c0 A1 c1 A2 c2 nd] w fun e w' => e = .returned (.bool (fullB pg wd nd)) ∧ Below w.heap.size w w' := by
  have HN := Lib.hid hN
  obtain ⟨hz0, hz1⟩ := sizeE_bd (pg := pg) (wd := wd) hN
  clear hN
  by_cases hc : checkE pg wd nd = 0
  · obtain ⟨hr, _⟩ := checkE_zero hc
    obtain ⟨⟨h0, h1⟩, h2, h3⟩ := right_spec hr
    have hfin : fullB pg wd nd = decide (pg - 32 < sizeE pg wd nd) := by unfold fullB; simp only [hc, true_and] <;> (rw [Bool.eq_iff_iff, decide_eq_true_iff, decide_eq_true_iff]; omega)
    have HF := Lib.hid hfin
    have HC := Lib.hid hc
    clear hfin hc hr
    go_enter Try.func36, Try.ntmps36
    go_wp2
    refine wp_region_grow (by kernel_rfl) (by kernel_rfl) ?_
    repeat (any_goals (first | go_big_quiet_step (((first | (go_at_call 69; exact quiet_below (refCheck_v pg wd A0 A1 A2 c0 c1 c2 nd _ (HN.out.grown2 _) 0 HC.out)) | (go_at_call 72; exact quiet_below (refSize_c pg wd A0 A1 A2 c0 c1 c2 nd _ (HN.out.grown2 _)))))) | quiet_step (((first | (go_at_call 69; exact quiet_below (refCheck_v pg wd A0 A1 A2 c0 c1 c2 nd _ (HN.out.grown2 _) 0 HC.out)) | (go_at_call 72; exact quiet_below (refSize_c pg wd A0 A1 A2 c0 c1 c2 nd _ (HN.out.grown2 _))))))))
    refine wpQuiet_nil ?_
    intro w1 hb
    go_wp2
    go_ret
    exact ⟨ret_eq (by rw [HF.out]; rfl), below_aa hb⟩
  · have hfin : fullB pg wd nd = false := by simp [fullB, hc]
    have hne : (checkE pg wd nd == 0) = false := by simp [hc]
    have HF := Lib.hid hfin
    clear hfin hc
    go_enter Try.func36, Try.ntmps36
    go_wp2
    refine wp_region_grow (by kernel_rfl) (by kernel_rfl) ?_
    repeat (any_goals (first | go_big_quiet_step (((go_at_call 69; exact quiet_below (refCheck_c pg wd A0 A1 A2 c0 c1 c2 nd _ (HN.out.grown2 _))))) | quiet_step (((go_at_call 69; exact quiet_below (refCheck_c pg wd A0 A1 A2 c0 c1 c2 nd _ (HN.out.grown2 _)))))))
    refine wpQuiet_nil ?_
    intro w1 hb
    go_wp2
    go_ret
    exact ⟨ret_eq (by rw [HF.out]; rfl), below_aa hb⟩

theorem refThin_c (pg wd : Int) (A0 A1 A2 : Option Addr) (c0 c1 c2 : Nat) (nd : NodeD) (w : World) (hN : RdN w A0 c0 A1 c1 A2 c2 nd) :
    Calls Try.prog 38 #[vF pg wd, vN A0 c0 A1 c1 A2 c2 nd] w fun e w' => e = .returned (.bool (thinB pg wd nd)) ∧ Below w.heap.size w w' := by
  have HN := Lib.hid hN
  obtain ⟨hz0, hz1⟩ := sizeE_bd (pg := pg) (wd := wd) hN
  clear hN
  by_cases hc : checkE pg wd nd = 0
  · obtain ⟨hr, _⟩ := checkE_zero hc
    obtain ⟨⟨h0, h1⟩, h2, h3⟩ := right_spec hr
    have hfin : thinB pg wd nd = decide (3 * sizeE pg wd nd < pg - 32) := by unfold thinB; simp only [hc, true_and] <;> (rw [Bool.eq_iff_iff, decide_eq_true_iff, decide_eq_true_iff]; omega)
    have HF := Lib.hid hfin
    have HC := Lib.hid hc
    clear hfin hc hr
    go_enter Try.func38, Try.ntmps38
    go_wp2
    refine wp_region_grow (by kernel_rfl) (by kernel_rfl) ?_
    repeat (any_goals (first | go_big_quiet_step (((first | (go_at_call 69; exact quiet_below (refCheck_v pg wd A0 A1 A2 c0 c1 c2 nd _ (HN.out.grown2 _) 0 HC.out)) | (go_at_call 72; exact quiet_below (refSize_c pg wd A0 A1 A2 c0 c1 c2 nd _ (HN.out.grown2 _)))))) | quiet_step (((first | (go_at_call 69; exact quiet_below (refCheck_v pg wd A0 A1 A2 c0 c1 c2 nd _ (HN.out.grown2 _) 0 HC.out)) | (go_at_call 72; exact quiet_below (refSize_c pg wd A0 A1 A2 c0 c1 c2 nd _ (HN.out.grown2 _))))))))
    refine wpQuiet_nil ?_
    intro w1 hb
    go_wp2
    go_ret
    exact ⟨ret_eq (by rw [HF.out]; rfl), below_aa hb⟩
  · have hfin : thinB pg wd nd = false := by simp [thinB, hc]
    have hne : (checkE pg wd nd == 0) = false := by simp [hc]
    have HF := Lib.hid hfin
    clear hfin hc
    go_enter Try.func38, Try.ntmps38
    go_wp2
    refine wp_region_grow (by kernel_rfl) (by kernel_rfl) ?_
    repeat (any_goals (first | go_big_quiet_step (((go_at_call 69; exact quiet_below (refCheck_c pg wd A0 A1 A2 c0 c1 c2 nd _ (HN.out.grown2 _))))) | quiet_step (((go_at_call 69; exact quiet_below (refCheck_c pg wd A0 A1 A2 c0 c1 c2 nd _ (HN.out.grown2 _)))))))
    refine wpQuiet_nil ?_
    intro w1 hb
    go_wp2
    go_ret
    exact ⟨ret_eq (by rw [HF.out]; rfl), below_aa hb⟩

end Go.Proofs.Ytajkoeodabmgeaa
end
