/- GraftSplits: for every frame and every node the law returns true and nothing that was there has turned. No condition. -/
import Derived.Test.YtajkoeodabmgeaaZ8
import Derived.Test.YtajkoeodabmgeaaW8
namespace Go.Proofs.Ytajkoeodabmgeaa
open Go.ChangeShapes Go.WideShapes Go.ChangeAt Go.RowKit

set_option maxRecDepth 100000 in
theorem splits_lifted (os : Os) (started : os.Started) (H : Type) (enc : TypeId × Value → H) :
    ReturnsInHanded {} Try.checked os 7 .any (Rows.graftSplitsSpec.pre6 enc Try.prog Try.f7 Rows.graftSplitsRow.domain false) (Rows.graftSplitsSpec.post enc Try.prog Try.f7 false true false false) := by
  refine returnsInHanded_of_change_sized (C := Try.checked) Try.own started (by kernel_rfl) Try.func7
    (ChangeSpec.witness6 (enc := enc) (C := Try.checked) false ⟨#[], #[.agg #[.int .i64 0, .int .i64 0], .agg #[.slice none 0 0, .slice none 0 0, .slice none 0 0]], []⟩ 8 (by kernel_rfl) (by kernel_rfl) (by kernel_rfl) (by kernel_rfl)) ?_
  intro W base args ds gs before hval0 hW hcnd hsz _
  have hval : ∀ (j : Nat) t v, Try.f7.params[j]? = some t → args[j]? = some v → Value.okWide Try.prog W .any base t v := hval0
  have hW' := hW
  obtain ⟨p, q, hA0, hV, rfl, hfz, hnd⟩ := hW
  have hA : DataW.TrodAll enc Try.prog W 0 (fun _ => true) true Try.f7.params.toList args.toList ds p := hA0
  rw [Try.params7] at hA hval
  obtain ⟨v0, v1, d0, d1, p0, p1, rfl, rfl, rfl, h0, h1⟩ := trodAll_two hA
  obtain ⟨rfl, rfl⟩ := trodVars_none hV
  obtain ⟨pg, wd, rfl⟩ := open_frame (hval 0 24 v0 rfl rfl) h0
  obtain ⟨A0, c0, A1, c1, A2, c2, nd, rfl, hN, hR⟩ := open_node (hval 1 29 v1 rfl rfl) h1 (weight_at hsz (j := 1) rfl rfl)
  clear hA0 hval0 hsz
  simp only [List.append_nil] at hW'
  refine (splits_law pg wd A0 A1 A2 c0 c1 c2 nd W hN ⟨by have := hR.p; omega, by have := hR.s; omega, by have := hR.k; omega⟩).mono fun e W' ⟨he, hb⟩ => ?_
  subst he
  exact ⟨_, rfl, law_post Try.f7 Rows.graftSplitsSpec hW' rfl rfl (by kernel_rfl) (by kernel_rfl) hb⟩

theorem splits_holds : Rows.GraftSplitsSaid :=
  OpenClaim.holds_of_wide 7 Try.f7 rfl rfl rfl rfl rfl rfl rfl ⟨rfl, rfl, rfl, rfl, rfl⟩ rfl rfl rfl rfl rfl (by kernel_rfl) Try.func7 (by kernel_rfl)
    (of_decide_eq_true (by kernel_rfl)) (by unfold Func.isWrapper; first | (rw [if_pos (by decide +kernel)]; kernel_rfl) | (rw [if_neg (by decide +kernel)]; exact ⟨rfl, rfl⟩))
    (fun os started H enc _ => splits_lifted os started H enc)

end Go.Proofs.Ytajkoeodabmgeaa
