/- QueryNil: for every question the law returns true and nothing that was there has turned. The tables of unicode/utf8 that its row lists are tied to the program's text (the tie is given). -/
import Derived.Test.YtbndadjaofnnkaaGreatDoorRA0
import Derived.Test.YtbndadjaofnnkaaGreatDoorZO
import Derived.Test.YtbndadjaofnnkaaGreatDoorZ14
import Derived.Test.YtbndadjaofnnkaaGreatDoorTie
import Derived.Test.YtbndadjaofnnkaaGreatDoorCards
import Derived.SevenTiedAt
namespace Go.Proofs.YtbndadjaofnnkaaGreatDoor
open Go.ChangeShapes Go.WideShapes Go.ChangeAt Go.RowKit

theorem nil_witness (os : Os) {H : Type} (enc : TypeId × Value → H) :
    (OpenSpec.ofChange Rows.queryNilSpec).preRow enc Tryz.prog Tryz.f3 Rows.queryNilRow.domain false Rows.queryNilRow.laid ((laidWorld os).forCall (fun _ _ => 0) ⟨#[], #[zeroQ], []⟩).memory #[zeroQ] := by
  have hw : (DataW.whole enc Tryz.prog ((laidWorld os).forCall (fun _ _ => 0) ⟨#[], #[zeroQ], []⟩).memory Tryz.f3.params.toList Rows.queryNilSpec.vars false (#[zeroQ] : Array Value).toList 8).map (fun x => (x.1, x.2.1)) = some ([zeroD], []) := by kernel_rfl
  obtain ⟨⟨x1, x2, x3⟩, hx, hx1⟩ := Option.map_eq_some_iff.1 hw
  simp only [Prod.mk.injEq] at hx1
  obtain ⟨rfl, rfl⟩ := hx1
  exact OpenSpec.preRow_of_cond 8 hx (by kernel_rfl) (fun k hk => by cases hk) (by kernel_rfl) (laid_met os _)

set_option maxRecDepth 100000 in
set_option maxHeartbeats 2000000 in
theorem nil_lifted (os : Os) (started : os.Started) (H : Type) (enc : TypeId × Value → H) (F : Stop.Interp) :
    ReturnsInHanded {} Tryz.checked os 3 .any ((OpenSpec.ofChange Rows.queryNilSpec).preRow enc Tryz.prog Tryz.f3 Rows.queryNilRow.domain false Rows.queryNilRow.laid) (((OpenSpec.ofChange Rows.queryNilSpec).at F).post enc Tryz.prog Tryz.f3 false true false false) := by
  refine returnsInHanded_of_row (C := Tryz.checked) (s := OpenSpec.ofChange Rows.queryNilSpec) Tryz.own started (by kernel_rfl) Tryz.func3
    (witness_row_atRef (enc := enc) (C := Tryz.checked) false (laidWorld os) #[zeroQ] rfl (by kernel_rfl) (by kernel_rfl) (by kernel_rfl) (nil_witness os enc)) ?_
  intro W base args ds gs before hval0 hW _ _ hsz0 _ hsh _
  have hsz : (DataW.weightsEach Tryz.prog (Tryz.f3.params.toList ++ (OpenSpec.ofChange Rows.queryNilSpec).bare.plain.varTypes Tryz.prog) (ds ++ gs)).all (· ≤ reachBytes) = true := hsz0
  have hval : ∀ (j : Nat) t v, Tryz.f3.params[j]? = some t → args[j]? = some v → Value.okWide Tryz.prog W .any base t v := hval0
  have hW' := hW
  obtain ⟨p, q, hA0, hV, rfl, hfz, hnd⟩ := hW
  have hA : DataW.TrodAll enc Tryz.prog W 0 (fun _ => true) true Tryz.f3.params.toList args.toList ds p := hA0
  rw [Tryz.params3] at hA hval hsz
  obtain ⟨v0, d0, rfl, rfl, h0⟩ := trodAll_one hA
  obtain ⟨rfl, rfl⟩ := trodVars_none hV
  obtain ⟨x, rfl, hX⟩ := open_q (hval 0 _ v0 rfl rfl) h0 (weight_at hsz (j := 0) rfl rfl)
  refine (nil_law x W hX (maxLen_cell hsh)).mono fun e W' ⟨he, hb⟩ => ?_
  subst he
  exact ⟨_, rfl, law_post Tryz.f3 Rows.queryNilSpec hW' rfl rfl (by kernel_rfl) (by kernel_rfl) hb⟩

theorem nil_row : Rows.QueryNilSaid :=
  OpenClaim.holds_of_cond 3 Tryz.f3 rfl rfl rfl rfl rfl rfl rfl ⟨rfl, rfl, rfl, rfl, rfl⟩ rfl rfl rfl rfl rfl (by kernel_rfl) Tryz.func3 (by kernel_rfl)
    (of_decide_eq_true (by kernel_rfl)) (by unfold Func.isWrapper; first | (rw [if_pos (by decide +kernel)]; kernel_rfl) | (rw [if_neg (by decide +kernel)]; exact ⟨rfl, rfl⟩))
    (fun os started H enc _ F0 => by rw [OpenClaim.pre_eq_preRow]; exact nil_lifted os started H enc F0)

theorem nil_holds : Rows.QueryNilCardSaid :=
  Claim7.holds_tied_plain_at .later [] [.data, .pinned] true (true, "eb966d82205b366349d29b867fff251b242d73e31981b10889aa32746c45e72f") false
    nil_row (fun _ h => by cases h) (by kernel_rfl) (fun _ h => by cases h) queryNil_row_tie rfl ⟨rfl, rfl⟩ (by kernel_rfl) rfl
    (fun f fn hf hfn => by
      obtain rfl : f = 3 := Option.some.inj ((show Tryz.prog.funcNamed "heartwood/heartwoodlaw26.QueryNil" = some 3 by kernel_rfl).symm.trans hf) |>.symm
      obtain rfl : fn = Tryz.f3 := (Option.some.inj (Tryz.func3.symm.trans hfn)).symm
      exact ⟨by kernel_rfl, fun j t ht => by
        rw [Tryz.params3] at ht
        have hm : t ∈ [27] := by simpa using Array.mem_of_getElem? ht
        have hall : ([27].all fun u => !Tryz.prog.wantsStandIn u) = true := by kernel_rfl
        exact (show Tryz.prog.wantsStandIn t = false by simpa using List.all_eq_true.1 hall t hm)⟩)
    (by kernel_rfl)

end Go.Proofs.YtbndadjaofnnkaaGreatDoor
