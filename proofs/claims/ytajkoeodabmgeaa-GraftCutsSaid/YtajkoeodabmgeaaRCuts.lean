/- GraftCuts: for every frame, node and number the law returns true and nothing that was there has turned. No condition. -/
import Derived.Test.YtajkoeodabmgeaaJF
import Derived.Test.YtajkoeodabmgeaaZ8
import Derived.Test.YtajkoeodabmgeaaCU2
namespace Go.Proofs.Ytajkoeodabmgeaa
open Go.ChangeShapes Go.WideShapes Go.ChangeAt Go.RowKit

theorem cuts_facts : joinedFacts Try.prog 6 Try.f6 Rows.graftCutsSpec Rows.graftCutsRow = true :=
  joined_of rfl rfl (by kernel_rfl)
theorem cuts_named : Try.prog.funcNamed Rows.graftCutsRow.func = some 6 := by kernel_rfl

set_option maxRecDepth 100000 in
theorem cuts_lifted (os : Os) (started : os.Started) (H : Type) (enc : TypeId × Value → H) :
    ReturnsInHanded {} Try.checked os 6 .any (Rows.graftCutsSpec.pre6 enc Try.prog Try.f6 Rows.graftCutsRow.domain false) (Rows.graftCutsSpec.post enc Try.prog Try.f6 false true false false) := by
  refine returnsInHanded_of_change_sized (C := Try.checked) Try.own started (by kernel_rfl) Try.func6
    (ChangeSpec.witness6 (enc := enc) (C := Try.checked) false ⟨#[], #[.agg #[.int .i64 0, .int .i64 0], .agg #[.slice none 0 0, .slice none 0 0, .slice none 0 0], .int .i64 0], []⟩ 8 (by kernel_rfl) (by kernel_rfl) (by kernel_rfl) (by kernel_rfl)) ?_
  intro W base args ds gs before hval0 hW hcnd hsz _
  have hval : ∀ (j : Nat) t v, Try.f6.params[j]? = some t → args[j]? = some v → Value.okWide Try.prog W .any base t v := hval0
  have hW' := hW
  obtain ⟨p, q, hA0, hV, rfl, hfz, hnd⟩ := hW
  have hA : DataW.TrodAll enc Try.prog W 0 (fun _ => true) true Try.f6.params.toList args.toList ds p := hA0
  rw [Try.params6] at hA hval
  obtain ⟨v0, v1, v2, d0, d1, d2, p0, p1, p2, rfl, rfl, rfl, h0, h1, h2⟩ := trodAll_three hA
  obtain ⟨rfl, rfl⟩ := trodVars_none hV
  obtain ⟨pg, wd, rfl⟩ := open_frame (hval 0 24 v0 rfl rfl) h0
  obtain ⟨A0, c0, A1, c1, A2, c2, nd, rfl, hN, hR⟩ := open_node (hval 1 29 v1 rfl rfl) h1 (weight_at hsz (j := 1) rfl rfl)
  obtain ⟨mst, rfl, rfl, rfl, w2⟩ := open_int Try.underlying3 (hval 2 3 v2 rfl rfl) h2
  clear hA0 hval0 hsz
  simp only [List.append_nil] at hW'
  refine (cuts_law pg wd mst A0 A1 A2 c0 c1 c2 nd W hN ⟨by have := hR.p; omega, by have := hR.s; omega, by have := hR.k; omega⟩).mono fun e W' ⟨he, hb⟩ => ?_
  subst he
  exact ⟨_, rfl, law_post Try.f6 Rows.graftCutsSpec hW' rfl rfl (by kernel_rfl) (by kernel_rfl) hb⟩

theorem cuts_holds : Rows.GraftCutsSaid :=
  OpenClaim.holds_of_wide 6 Try.f6 rfl rfl rfl rfl rfl rfl rfl ⟨rfl, rfl, rfl, rfl, rfl⟩ rfl rfl rfl rfl rfl cuts_named Try.func6 cuts_facts
    (of_decide_eq_true (by kernel_rfl)) (by unfold Func.isWrapper; first | (rw [if_pos (by decide +kernel)]; kernel_rfl) | (rw [if_neg (by decide +kernel)]; exact ⟨rfl, rfl⟩))
    (fun os started H enc _ => cuts_lifted os started H enc)

end Go.Proofs.Ytajkoeodabmgeaa
