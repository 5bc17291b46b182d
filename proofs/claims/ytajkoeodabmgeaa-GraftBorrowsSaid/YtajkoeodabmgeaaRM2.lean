import Derived.Test.YtajkoeodabmgeaaRM1
import Derived.Test.YtajkoeodabmgeaaY12
import Derived.Test.YtajkoeodabmgeaaY13
namespace Go.Proofs.Ytajkoeodabmgeaa
open Go.ChangeShapes Go.WideShapes Go.ChangeAt Go.RowKit

theorem not_great {L R : NodeD} (h : (greatB L || greatB R) = false) : (L.pairs.length + L.seps.length + L.kids.length) + (R.pairs.length + R.seps.length + R.kids.length) ≤ 1048576 := by
  simp only [greatB, Bool.or_eq_false_iff, decide_eq_false_iff_not] at h
  omega
theorem joinR_room {pg wd : Int} {L R : NodeD} {s : ByteArray} (h : (L.pairs.length + L.seps.length + L.kids.length) + (R.pairs.length + R.seps.length + R.kids.length) ≤ 1048576) : Room 8 (joinR pg wd L s R) := by
  have hn : Room 8 noN := ⟨by decide, by decide, by decide⟩
  have hj : Room 8 (joinN L s R) := by
    unfold joinN
    split
    · exact ⟨by simp; omega, by simp, by simp⟩
    · exact ⟨by simp, by simp; omega, by simp; omega⟩
  unfold joinR
  split
  · exact hj
  · exact hn
theorem Room.less {nd : NodeD} (h : Room 8 nd) : Room 6 nd := ⟨by have := h.p; omega, by have := h.s; omega, by have := h.k; omega⟩
theorem borrow_room {pg wd : Int} {L R : NodeD} {s : ByteArray} (h : Room 8 (joinR pg wd L s R)) : Room 6 (borrowL pg wd L s R) ∧ Room 6 (borrowR pg wd L s R) := by
  have hn : Room 6 noN := ⟨by decide, by decide, by decide⟩
  constructor
  · unfold borrowL
    split
    · exact (splitRoom h).1
    · exact hn
  · unfold borrowR
    split
    · exact (splitRoom h).2
    · exact hn
theorem mend_room {pg wd : Int} {L R : NodeD} {s : ByteArray} (h : Room 8 (joinR pg wd L s R)) : Room 6 (mendL pg wd L s R) ∧ Room 6 (mendR pg wd L s R) := by
  have hn : Room 6 noN := ⟨by decide, by decide, by decide⟩
  constructor
  · unfold mendL
    split
    · split
      · exact (splitRoom h).1
      · exact h.less
    · exact hn
  · unfold mendR
    split
    · split
      · exact (splitRoom h).2
      · exact hn
    · exact hn

set_option maxRecDepth 100000 in
theorem borrows_lifted (os : Os) (started : os.Started) (H : Type) (enc : TypeId × Value → H) :
    ReturnsInHanded {} Try.checked os 16 .any (Rows.graftBorrowsSpec.pre6 enc Try.prog Try.f16 Rows.graftBorrowsRow.domain false) (Rows.graftBorrowsSpec.post enc Try.prog Try.f16 false true false false) := by
  refine returnsInHanded_of_change_sized (C := Try.checked) Try.own started (by kernel_rfl) Try.func16
    (ChangeSpec.witness6 (enc := enc) (C := Try.checked) false ⟨#[], #[.agg #[.int .i64 0, .int .i64 0], .agg #[.slice none 0 0, .slice none 0 0, .slice none 0 0, .string ⟨#[]⟩, .slice none 0 0, .slice none 0 0, .slice none 0 0]], []⟩ 8 (by kernel_rfl) (by kernel_rfl) (by kernel_rfl) (by kernel_rfl)) ?_
  intro W base args ds gs before hval0 hW hcnd hsz _
  have hval : ∀ (j : Nat) t v, Try.f16.params[j]? = some t → args[j]? = some v → Value.okWide Try.prog W .any base t v := hval0
  have hW' := hW
  obtain ⟨p, q, hA0, hV, rfl, hfz, hnd⟩ := hW
  have hA : DataW.TrodAll enc Try.prog W 0 (fun _ => true) true Try.f16.params.toList args.toList ds p := hA0
  rw [Try.params16] at hA hval
  obtain ⟨v0, v1, d0, d1, p0, p1, rfl, rfl, rfl, h0, h1⟩ := trodAll_two hA
  obtain ⟨rfl, rfl⟩ := trodVars_none hV
  obtain ⟨pg, wd, rfl⟩ := open_frame (hval 0 24 v0 rfl rfl) h0
  obtain ⟨x, y, L, R, s, rfl, hL, hR, rL, rR, hs, hb⟩ := open_halves (hval 1 54 v1 rfl rfl) h1 (weight_at hsz (j := 1) rfl rfl)
  clear hA0 hval0 hsz
  simp only [List.append_nil] at hW'
  refine (borrows_law pg wd x y L R s W hL hR ⟨by have := rL.p; omega, by have := rL.s; omega, by have := rL.k; omega⟩ ⟨by have := rR.p; omega, by have := rR.s; omega, by have := rR.k; omega⟩ (fun h => joinOk_of (not_great h) hs) (fun h => borrow_room (joinR_room (not_great h)))).mono fun e W' ⟨he, hb⟩ => ?_
  subst he
  exact ⟨_, rfl, law_post Try.f16 Rows.graftBorrowsSpec hW' rfl rfl (by kernel_rfl) (by kernel_rfl) hb⟩

set_option maxRecDepth 100000 in
theorem mends_lifted (os : Os) (started : os.Started) (H : Type) (enc : TypeId × Value → H) :
    ReturnsInHanded {} Try.checked os 18 .any (Rows.graftMendsSpec.pre6 enc Try.prog Try.f18 Rows.graftMendsRow.domain false) (Rows.graftMendsSpec.post enc Try.prog Try.f18 false true false false) := by
  refine returnsInHanded_of_change_sized (C := Try.checked) Try.own started (by kernel_rfl) Try.func18
    (ChangeSpec.witness6 (enc := enc) (C := Try.checked) false ⟨#[], #[.agg #[.int .i64 0, .int .i64 0], .agg #[.slice none 0 0, .slice none 0 0, .slice none 0 0, .string ⟨#[]⟩, .slice none 0 0, .slice none 0 0, .slice none 0 0]], []⟩ 8 (by kernel_rfl) (by kernel_rfl) (by kernel_rfl) (by kernel_rfl)) ?_
  intro W base args ds gs before hval0 hW hcnd hsz _
  have hval : ∀ (j : Nat) t v, Try.f18.params[j]? = some t → args[j]? = some v → Value.okWide Try.prog W .any base t v := hval0
  have hW' := hW
  obtain ⟨p, q, hA0, hV, rfl, hfz, hnd⟩ := hW
  have hA : DataW.TrodAll enc Try.prog W 0 (fun _ => true) true Try.f18.params.toList args.toList ds p := hA0
  rw [Try.params18] at hA hval
  obtain ⟨v0, v1, d0, d1, p0, p1, rfl, rfl, rfl, h0, h1⟩ := trodAll_two hA
  obtain ⟨rfl, rfl⟩ := trodVars_none hV
  obtain ⟨pg, wd, rfl⟩ := open_frame (hval 0 24 v0 rfl rfl) h0
  obtain ⟨x, y, L, R, s, rfl, hL, hR, rL, rR, hs, hb⟩ := open_halves (hval 1 54 v1 rfl rfl) h1 (weight_at hsz (j := 1) rfl rfl)
  clear hA0 hval0 hsz
  simp only [List.append_nil] at hW'
  refine (mends_law pg wd x y L R s W hL hR ⟨by have := rL.p; omega, by have := rL.s; omega, by have := rL.k; omega⟩ ⟨by have := rR.p; omega, by have := rR.s; omega, by have := rR.k; omega⟩ (fun h => joinOk_of (not_great h) hs) (fun h => mend_room (joinR_room (not_great h)))).mono fun e W' ⟨he, hb⟩ => ?_
  subst he
  exact ⟨_, rfl, law_post Try.f18 Rows.graftMendsSpec hW' rfl rfl (by kernel_rfl) (by kernel_rfl) hb⟩

end Go.Proofs.Ytajkoeodabmgeaa
