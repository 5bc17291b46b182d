/- QueryPicks: for every frame, table, question and pairs of bulk at most 1048576 the law returns true and nothing that was there has turned. Condition: the bulk of what is read. The tables of unicode/utf8 that its row lists are tied to the program's text (the tie is given). -/
import Derived.Test.YtonjgedhmmnolaaGreatDoorRA0
import Derived.Test.YtonjgedhmmnolaaGreatDoorZO
import Derived.Test.YtonjgedhmmnolaaGreatDoorZS6
import Derived.Test.YtonjgedhmmnolaaGreatDoorTie
import Derived.Test.YtonjgedhmmnolaaGreatDoorCards
import Derived.SevenTiedAt
namespace Go.Proofs.YtonjgedhmmnolaaGreatDoor
open Go.ChangeShapes Go.WideShapes Go.ChangeAt Go.RowKit Go.Deep
open Go.ChangeMaps (open_string shut_string)
set_option maxRecDepth 100000
theorem one_le_bulk {H : Type} (d : DataW H) : 1 ≤ Rows.uptoBulk d := by
 cases d with
 | lit l => cases l <;> simp [Rows.uptoBulk]
 | _ => simp [Rows.uptoBulk]
theorem len_bulk {H : Type} (l : List (DataW H)) : l.length ≤ Rows.uptoBulkAll l := by
 induction l with
 | nil => simp [Rows.uptoBulkAll]
 | cons x r ih => have := one_le_bulk x; simp only [Rows.uptoBulkAll, List.length_cons]; omega
theorem slice_bulk {H : Type} {enc : TypeId × Value → H} {W : World} {t e : TypeId} {fuel : Nat} {A : Option Addr} {n c : Nat} {x : DataW H × List MemPlace} (ht : Tryz.prog.underlying t = some (.slice e))
 (h : DataW.trod enc Tryz.prog W 0 (fun _ => true) true fuel t [.slice A n c] = some x) : n ≤ Rows.uptoBulk x.1 := by
 rcases open_slice ht h with ⟨e1, _⟩ | ⟨a, len, cap, m, n', D, Pl, e1, _, hl, _, hmm, rfl, hx⟩
 ·cases e1; exact Nat.zero_le _
 ·cases e1
  simp only [Rows.uptoBulk]
  have := len_bulk ((List.range n).map D)
  simp only [List.length_map, List.length_range] at this
  omega
theorem in_bulk {H : Type} {enc : TypeId × Value → H} {W : World} {x : InV} {d : DataW H} {ps : List MemPlace} (hd : DataW.Trod enc Tryz.prog W 0 (fun _ => true) true 37 x.val d ps) : x.P.length ≤ Rows.uptoBulk d ∧ x.q.cols.length ≤ Rows.uptoBulk d := by
 obtain ⟨fuel, h⟩ := hd
 rcases x with ⟨pg, wd, ⟨tn, cols, keys⟩, A, c, ⟨qt, fr, tt, wh, qc, qd, ql, qf, qo, AF, cF, AT, cT, AW, cW, AC, cC⟩, P, AP, cP, AR, nR, cR, pf⟩
 obtain ⟨xs, n, _, hx, hl, hxl, hf⟩ := DataW.trod_struct Tryz.underlying37 h
 obtain ⟨x0, x1, x2, x3, x4, x5, rfl⟩ := list6 (show xs.length = 6 from hxl)
 have h3 : DataW.trod enc Tryz.prog W 0 (fun _ => true) true n 34 [.slice AP P.length cP] = some x3 := hf 3 _ rfl
 have h4 := slice_bulk Tryz.underlying34 h3
 have h2 : DataW.trod enc Tryz.prog W 0 (fun _ => true) true n 33 [.string qt, .slice AF fr.length cF, .slice AT tt.length cT, .slice AW wh.length cW, .slice AC qc.length cC, .bool qd, .int .i64 ql, .int .u8 qf, .string qo] = some x2 := hf 2 _ rfl
 obtain ⟨ys, m, _, hy, _, hyl, hg⟩ := DataW.trod_struct Tryz.underlying33 h2
 obtain ⟨y0, y1, y2, y3, y4, y5, y6, y7, y8, rfl⟩ := list9 (show ys.length = 9 from hyl)
 have h5 : DataW.trod enc Tryz.prog W 0 (fun _ => true) true m 30 [.slice AC qc.length cC] = some y4 := hg 4 _ rfl
 have h6 := slice_bulk Tryz.underlying30 h5
 simp only at h4 h6 ⊢
 have hq : qc.length ≤ Rows.uptoBulk x2.1 := by
  rw [hy]
  simp only [Rows.uptoBulk, Rows.uptoBulkAll, List.map_cons, List.map_nil]
  omega
 simp only [Prod.mk.injEq] at hx
 rw [hx.1]
 simp only [Rows.uptoBulk, Rows.uptoBulkAll, List.map_cons, List.map_nil]
 omega
theorem picks_witness (os : Os) {H : Type} (enc : TypeId × Value → H) :
 (Rows.OpenSpec.upto Rows.queryPicksSpec).preRow enc Tryz.prog Tryz.f7 Rows.queryPicksUptoRow.domain false Rows.queryPicksUptoRow.laid ((laidWorld os).forCall (fun _ _ => 0) ⟨#[], #[zeroIn], []⟩).memory #[zeroIn] := by
 have hw : (DataW.whole enc Tryz.prog ((laidWorld os).forCall (fun _ _ => 0) ⟨#[], #[zeroIn], []⟩).memory Tryz.f7.params.toList Rows.queryPicksSpec.vars false (#[zeroIn] : Array Value).toList 8).map (fun x => (x.1, x.2.1)) = some ([zeroD], []) := by kernel_rfl
 obtain ⟨⟨x1, x2, x3⟩, hx, hx1⟩ := Option.map_eq_some_iff.1 hw
 simp only [Prod.mk.injEq] at hx1
 obtain ⟨rfl, rfl⟩ := hx1
 exact OpenSpec.preRow_of_cond 8 hx (by kernel_rfl) (fun k hk => by cases hk; rfl) (by kernel_rfl) (laid_met os _)
set_option maxRecDepth 100000 in
set_option maxHeartbeats 2000000 in
theorem picks_lifted (os : Os) (started : os.Started) (H : Type) (enc : TypeId × Value → H) (F : Stop.Interp) :
 ReturnsInHanded {} Tryz.checked os 7 .any ((Rows.OpenSpec.upto Rows.queryPicksSpec).preRow enc Tryz.prog Tryz.f7 Rows.queryPicksUptoRow.domain false Rows.queryPicksUptoRow.laid) (((Rows.OpenSpec.upto Rows.queryPicksSpec).at F).post enc Tryz.prog Tryz.f7 false true false false) := by
 refine returnsInHanded_of_row (C := Tryz.checked) (s := Rows.OpenSpec.upto Rows.queryPicksSpec) Tryz.own started (by kernel_rfl) Tryz.func7
  (witness_row_atRef (enc := enc) (C := Tryz.checked) false (laidWorld os) #[zeroIn] rfl (by kernel_rfl) (by kernel_rfl) (by kernel_rfl) (picks_witness os enc)) ?_
 intro W base args ds gs before hval0 hW _ hk0 hsz0 _ hsh _
 have hk : Rows.uptoSmall H (ds ++ gs) = true := hk0 _ rfl
 have hsz : (DataW.weightsEach Tryz.prog (Tryz.f7.params.toList ++ (Rows.OpenSpec.upto Rows.queryPicksSpec).bare.plain.varTypes Tryz.prog) (ds ++ gs)).all (· ≤ reachBytes) = true := hsz0
 have hval : ∀ (j : Nat) t v, Tryz.f7.params[j]? = some t → args[j]? = some v → Value.okWide Tryz.prog W .any base t v := hval0
 have hW' : DataW.Whole enc Tryz.prog Tryz.f7.params.toList Rows.queryPicksSpec.vars false W args.toList ds gs before := hW
 obtain ⟨p, q, hA0, hV, rfl, hfz, hnd⟩ := hW
 have hA : DataW.TrodAll enc Tryz.prog W 0 (fun _ => true) true Tryz.f7.params.toList args.toList ds p := hA0
 rw [Tryz.params7] at hA hval hsz
 obtain ⟨v0, d0, rfl, rfl, h0⟩ := trodAll_one hA
 obtain ⟨rfl, rfl⟩ := trodVars_none hV
 letI : Inhabited Thr := ⟨⟨W.heap.size⟩⟩
 have hthr : thr = W.heap.size := rfl
 obtain ⟨x, rfl, hX⟩ := open_in (hval 0 _ v0 rfl rfl) h0 (weight_at hsz (j := 0) rfl rfl) (Nat.le_of_eq hthr.symm)
 have hbk : Rows.uptoBulkAll ([d0] ++ []) ≤ 1048576 := of_decide_eq_true hk
 simp only [Rows.uptoBulkAll, List.append_nil] at hbk
 have hbn := in_bulk h0
 clear hA0 hval0 hsz hsz0 hk hk0
 simp only [List.append_nil] at hW'
 refine (picks_law x W (Nat.le_of_eq hthr) hX (by omega) (by omega) (maxLen_cell hsh)).mono fun e W' ⟨he, hb⟩ => ?_
 subst he
 exact ⟨_, rfl, law_post Tryz.f7 Rows.queryPicksSpec hW' rfl rfl (by kernel_rfl) (by kernel_rfl) hb⟩
theorem picks_row : Rows.QueryPicksUptoSaid :=
 OpenClaim.holds_of_cond 7 Tryz.f7 rfl rfl rfl rfl rfl rfl rfl ⟨rfl, rfl, rfl, rfl, rfl⟩ rfl rfl rfl rfl rfl (by kernel_rfl) Tryz.func7 (by kernel_rfl)
  (of_decide_eq_true (by kernel_rfl)) (by unfold Func.isWrapper; first | (rw [if_pos (by decide +kernel)]; kernel_rfl) | (rw [if_neg (by decide +kernel)]; exact ⟨rfl, rfl⟩))
  (fun os started H enc _ F0 => by rw [OpenClaim.pre_eq_preRow]; exact picks_lifted os started H enc F0)
theorem picks_holds : Rows.QueryPicksUptoCardSaid :=
 Claim7.holds_tied_plain_at .later [] [.data, .pinned] true (true, "666b29850d936a34e26a879c77fff946f555962374707e1a1a8b4a489f3c880a") false
  picks_row (fun _ h => by cases h) (by kernel_rfl) (fun _ h => by cases h) queryPicksUpto_row_tie rfl ⟨rfl, rfl⟩ (by kernel_rfl) rfl
  (fun f fn hf hfn => by
    obtain rfl : f = 7 := Option.some.inj ((show Tryz.prog.funcNamed "heartwood/heartwoodlaw26.QueryPicks" = some 7 by kernel_rfl).symm.trans hf) |>.symm
    obtain rfl : fn = Tryz.f7 := (Option.some.inj (Tryz.func7.symm.trans hfn)).symm
    exact ⟨by kernel_rfl, fun j t ht => by
     rw [Tryz.params7] at ht
     have hm : t ∈ [37] := by simpa using Array.mem_of_getElem? ht
     have hall : ([37].all fun u => !Tryz.prog.wantsStandIn u) = true := by kernel_rfl
     exact (show Tryz.prog.wantsStandIn t = false by simpa using List.all_eq_true.1 hall t hm)⟩)
  (by kernel_rfl)
end Go.Proofs.YtonjgedhmmnolaaGreatDoor
