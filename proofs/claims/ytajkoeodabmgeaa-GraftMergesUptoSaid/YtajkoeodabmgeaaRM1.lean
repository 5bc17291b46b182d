import Derived.Deep.CondSized
import Derived.Test.YtajkoeodabmgeaaQ3
import Derived.Test.YtajkoeodabmgeaaY11
namespace Go.Proofs.Ytajkoeodabmgeaa
open Go.ChangeShapes Go.WideShapes Go.ChangeAt Go.RowKit

theorem mergeR_room {pg wd : Int} {L R : NodeD} {s : ByteArray} (h : (L.pairs.length + L.seps.length + L.kids.length) + (R.pairs.length + R.seps.length + R.kids.length) ≤ 1048576) : Room 6 (mergeR pg wd L s R) := by
  have hn : Room 6 noN := ⟨by decide, by decide, by decide⟩
  have hj : Room 6 (joinN L s R) := by
    unfold joinN
    split
    · exact ⟨by simp; omega, by simp, by simp⟩
    · exact ⟨by simp, by simp; omega, by simp; omega⟩
  have hr : Room 6 (joinR pg wd L s R) := by
    unfold joinR
    split
    · exact hj
    · exact hn
  unfold mergeR
  split
  · exact hn
  · exact hr
theorem joinOk_of {L R : NodeD} {s : ByteArray} (h : (L.pairs.length + L.seps.length + L.kids.length) + (R.pairs.length + R.seps.length + R.kids.length) ≤ 1048576) (hs : s.size ≤ 140737488355328) : JoinOk L s R :=
  ⟨hs, by omega, by omega, by omega⟩

set_option maxRecDepth 100000 in
theorem merges_lifted (os : Os) (started : os.Started) (H : Type) (enc : TypeId × Value → H) (F : Stop.Interp) :
    ReturnsInHanded {} Try.checked os 17 .any ((Rows.OpenSpec.upto Rows.graftMergesSpec).pre6 enc Try.prog Try.f17 Rows.graftMergesUptoRow.domain false) (((Rows.OpenSpec.upto Rows.graftMergesSpec).at F).post enc Try.prog Try.f17 false true false false) := by
  refine returnsInHanded_of_cond_sized (C := Try.checked) (s := Rows.OpenSpec.upto Rows.graftMergesSpec) (k := Rows.uptoSmall) rfl Try.own started (by kernel_rfl) Try.func17
    (OpenSpec.witness (enc := enc) (C := Try.checked) (s := Rows.OpenSpec.upto Rows.graftMergesSpec) (k := Rows.uptoSmall) rfl false ⟨#[], #[.agg #[.int .i64 0, .int .i64 0], .agg #[.slice none 0 0, .slice none 0 0, .slice none 0 0, .string ⟨#[]⟩, .slice none 0 0, .slice none 0 0, .slice none 0 0]], []⟩ 8 (by kernel_rfl) (by kernel_rfl) (by kernel_rfl)
      (x := ([.agg [.lit (.int .i64 0), .lit (.int .i64 0)], .agg [.agg [.nil, .nil, .nil], .lit (.string []), .agg [.nil, .nil, .nil]]], [], [])) (by kernel_rfl) rfl (by kernel_rfl)) ?_
  intro W base args ds gs before hval0 hW hcnd hk hsz _
  have hval : ∀ (j : Nat) t v, Try.f17.params[j]? = some t → args[j]? = some v → Value.okWide Try.prog W .any base t v := hval0
  have hW' : DataW.Whole enc Try.prog Try.f17.params.toList Rows.graftMergesSpec.vars false W args.toList ds gs before := hW
  obtain ⟨p, q, hA0, hV, rfl, hfz, hnd⟩ := hW
  have hA : DataW.TrodAll enc Try.prog W 0 (fun _ => true) true Try.f17.params.toList args.toList ds p := hA0
  rw [Try.params17] at hA hval
  obtain ⟨v0, v1, d0, d1, p0, p1, rfl, rfl, rfl, h0, h1⟩ := trodAll_two hA
  obtain ⟨rfl, rfl⟩ := trodVars_none hV
  obtain ⟨pg, wd, rfl⟩ := open_frame (hval 0 24 v0 rfl rfl) h0
  obtain ⟨x, y, L, R, s, rfl, hL, hR, rL, rR, hs, hb⟩ := open_halves (hval 1 54 v1 rfl rfl) h1 (weight_at hsz (j := 1) rfl rfl)
  have hk' : Rows.uptoSmall H [d0, d1] = true := by simpa using hk
  have hbk : Rows.uptoBulkAll [d0, d1] ≤ 1048576 := of_decide_eq_true hk'
  simp only [Rows.uptoBulkAll] at hbk
  have hsum : (L.pairs.length + L.seps.length + L.kids.length) + (R.pairs.length + R.seps.length + R.kids.length) ≤ 1048576 := by omega
  clear hA0 hval0 hsz hk hk'
  simp only [List.append_nil] at hW'
  refine (merges_law pg wd x y L R s W hL hR ⟨by have := rL.p; omega, by have := rL.s; omega, by have := rL.k; omega⟩ ⟨by have := rR.p; omega, by have := rR.s; omega, by have := rR.k; omega⟩ (joinOk_of hsum hs) (mergeR_room hsum)).mono fun e W' ⟨he, hb⟩ => ?_
  subst he
  exact ⟨_, rfl, law_post Try.f17 Rows.graftMergesSpec hW' rfl rfl (by kernel_rfl) (by kernel_rfl) hb⟩

end Go.Proofs.Ytajkoeodabmgeaa
