import Derived.Test.YtajkoeodabmgeaaY4
import Derived.Test.YtajkoeodabmgeaaZ14
import Derived.Test.YtajkoeodabmgeaaZ7
import Derived.Test.YtajkoeodabmgeaaZ3
namespace Go.Proofs.Ytajkoeodabmgeaa
open Go.RowKit
set_option maxHeartbeats 4000000
set_option maxRecDepth 100000
attribute [local go_sem] grow_cell grow_frozen grow_size

theorem sepOk_no {pg : Int} {s : ByteArray} (h : (s.size : Int) < 1 ∨ pg / 16 < (s.size : Int)) : sepOk pg s = false := by
  unfold sepOk
  rcases h with h | h
  · have h0 : s.toList = [] := List.eq_nil_of_length_eq_zero (by rw [toList_size]; omega)
    rw [h0]; rfl
  · rw [decide_eq_false (by omega), Bool.and_false]

theorem stands_leaf_c (pg wd : Int) (x : VH) (L : NodeD) (s : ByteArray) (y : VH) (R : NodeD) (w : World) (hL : RdN w x.A0 x.c0 x.A1 x.c1 x.A2 x.c2 L) (hR : RdN w y.A0 y.c0 y.A1 y.c1 y.A2 y.c2 R) (hsm : s.size ≤ 140737488355328)
    (hr : right pg wd = true) (h1 : leafB pg wd L = true) (h2 : leafB pg wd R = true) :
    Calls Try.prog 109 #[vF pg wd, vH x L s y R] w fun e w' => e = .returned (.bool (leafStand pg L s R)) ∧ Below w.heap.size w w' := by
  have hp0 : 0 ≤ pg ∧ pg ≤ 8192 := by have := (right_spec hr).1; omega
  have ho1 : L.seps.length = 0 := by rw [leaf_same h1]; rfl
  have ho2 : R.seps.length = 0 := by rw [leaf_same h2]; rfl
  unfold leafStand
  by_cases k1 : (s.size : Int) < 1
  · rw [sepOk_no (.inl k1)]; exact st_leaf_e1 pg wd x L s y R w hL hR hp0.1 hp0.2 hsm k1
  by_cases k2 : pg / 16 < (s.size : Int)
  · rw [sepOk_no (.inr k2)]; exact st_leaf_e2 pg wd x L s y R w hL hR hp0.1 hp0.2 hsm k1 k2
  rw [sepOk_of (by omega) (by omega), Bool.true_and]
  rcases hm : L.pairs.length with _ | m <;> rcases hn : R.pairs.length with _ | n
  · rw [lastP_nil hm, headP_nil hn]; exact st_leaf_g1 pg wd x L s y R w hL hR hp0.1 hp0.2 hsm k1 k2 ho1 ho2 hm hn
  · rw [lastP_nil hm, headP_some hn]
    cases hq : bl (keyAt R.pairs 0) s with
    | true => exact st_leaf_b4 pg wd x L s y R w hL hR hp0.1 hp0.2 hsm k1 k2 ho1 ho2 hm n hn _ rfl hq
    | false => exact st_leaf_g2 pg wd x L s y R w hL hR hp0.1 hp0.2 hsm k1 k2 ho1 ho2 hm n hn _ rfl hq
  · rw [lastP_some hm, headP_nil hn]
    cases ho : bl (keyAt L.pairs m) s with
    | false => exact st_leaf_b3 pg wd x L s y R w hL hR hp0.1 hp0.2 hsm k1 k2 ho1 ho2 m hm _ rfl ho
    | true => exact st_leaf_g3 pg wd x L s y R w hL hR hp0.1 hp0.2 hsm k1 k2 ho1 ho2 m hm _ rfl ho hn
  · rw [lastP_some hm, headP_some hn]
    cases ho : bl (keyAt L.pairs m) s with
    | false => exact st_leaf_b3 pg wd x L s y R w hL hR hp0.1 hp0.2 hsm k1 k2 ho1 ho2 m hm _ rfl ho
    | true =>
      cases hq : bl (keyAt R.pairs 0) s with
      | true => exact st_leaf_b5 pg wd x L s y R w hL hR hp0.1 hp0.2 hsm k1 k2 ho1 ho2 m hm _ rfl ho n hn _ rfl hq
      | false => exact st_leaf_g4 pg wd x L s y R w hL hR hp0.1 hp0.2 hsm k1 k2 ho1 ho2 m hm _ rfl ho n hn _ rfl hq

theorem branch_nil {pg wd : Int} {nd : NodeD} (h : branchB pg wd nd = true) : nd.pairs.length = 0 := by
  have h := of_decide_eq_true h
  have hs := (checkE_zero h.2).2
  rw [shaped, if_neg (fun hl => by have := hl.2; omega)] at hs
  exact hs.1

theorem stands_branch_c (pg wd : Int) (x : VH) (L : NodeD) (s : ByteArray) (y : VH) (R : NodeD) (w : World) (hL : RdN w x.A0 x.c0 x.A1 x.c1 x.A2 x.c2 L) (hR : RdN w y.A0 y.c0 y.A1 y.c1 y.A2 y.c2 R) (hsm : s.size ≤ 140737488355328)
    (hr : right pg wd = true) (h1 : branchB pg wd L = true) (h2 : branchB pg wd R = true) :
    Calls Try.prog 109 #[vF pg wd, vH x L s y R] w fun e w' => e = .returned (.bool (brStand pg L s R)) ∧ Below w.heap.size w w' := by
  have hp0 : 0 ≤ pg ∧ pg ≤ 8192 := by have := (right_spec hr).1; omega
  have ho1 := branch_nil h1
  have ho2 := branch_nil h2
  have hbad : ∀ t : ByteArray, bl t s = true → bl s t = false := fun t h => lt_asymm h
  have hbad2 : ∀ t : ByteArray, (t.toList == s.toList) = true → bl s t = false := fun t h => by
    have h' : t.toList = s.toList := by simpa using h
    rw [bl, h']; exact lt_irrefl _
  have hgood : ∀ t : ByteArray, bl t s = false → (t.toList == s.toList) = false → bl s t = true := fun t h h' => by
    rcases lt_total t.toList s.toList with e | e | e
    · rw [bl] at h; rw [show Op.bytesLess t.toList s.toList = true from e] at h; cases h
    · rw [e] at h'; simp at h'
    · exact e
  unfold brStand
  by_cases k1 : (s.size : Int) < 1
  · rw [sepOk_no (.inl k1)]; exact st_branch_e1 pg wd x L s y R w hL hR hp0.1 hp0.2 hsm k1
  by_cases k2 : pg / 16 < (s.size : Int)
  · rw [sepOk_no (.inr k2)]; exact st_branch_e2 pg wd x L s y R w hL hR hp0.1 hp0.2 hsm k1 k2
  rw [sepOk_of (by omega) (by omega), Bool.true_and]
  rcases hm : L.seps.length with _ | m <;> rcases hn : R.seps.length with _ | n
  · rw [lastOk_nil hm, headS_nil hn]; exact st_branch_g1 pg wd x L s y R w hL hR hp0.1 hp0.2 hsm k1 k2 ho1 ho2 hm hn
  · rw [lastOk_nil hm, headS_some hn]
    cases hq : bl (sepAt R.seps 0) s with
    | true => rw [hbad _ hq]; exact st_branch_b4 pg wd x L s y R w hL hR hp0.1 hp0.2 hsm k1 k2 ho1 ho2 hm n hn _ rfl hq
    | false =>
      cases hq2 : ((sepAt R.seps 0).toList == s.toList) with
      | true => rw [hbad2 _ hq2]; exact st_branch_b4x pg wd x L s y R w hL hR hp0.1 hp0.2 hsm k1 k2 ho1 ho2 hm n hn _ rfl hq hq2
      | false => rw [hgood _ hq hq2]; exact st_branch_g2 pg wd x L s y R w hL hR hp0.1 hp0.2 hsm k1 k2 ho1 ho2 hm n hn _ rfl hq hq2
  · rw [lastOk_some hm, headS_nil hn]
    cases ho : bl (sepAt L.seps m) s with
    | false => exact st_branch_b3 pg wd x L s y R w hL hR hp0.1 hp0.2 hsm k1 k2 ho1 ho2 m hm _ rfl ho
    | true => exact st_branch_g3 pg wd x L s y R w hL hR hp0.1 hp0.2 hsm k1 k2 ho1 ho2 m hm _ rfl ho hn
  · rw [lastOk_some hm, headS_some hn]
    cases ho : bl (sepAt L.seps m) s with
    | false => exact st_branch_b3 pg wd x L s y R w hL hR hp0.1 hp0.2 hsm k1 k2 ho1 ho2 m hm _ rfl ho
    | true =>
      cases hq : bl (sepAt R.seps 0) s with
      | true => rw [hbad _ hq]; exact st_branch_b5 pg wd x L s y R w hL hR hp0.1 hp0.2 hsm k1 k2 ho1 ho2 m hm _ rfl ho n hn _ rfl hq
      | false =>
        cases hq2 : ((sepAt R.seps 0).toList == s.toList) with
        | true => rw [hbad2 _ hq2]; exact st_branch_b5x pg wd x L s y R w hL hR hp0.1 hp0.2 hsm k1 k2 ho1 ho2 m hm _ rfl ho n hn _ rfl hq hq2
        | false => rw [hgood _ hq hq2]; exact st_branch_g4 pg wd x L s y R w hL hR hp0.1 hp0.2 hsm k1 k2 ho1 ho2 m hm _ rfl ho n hn _ rfl hq hq2

end Go.Proofs.Ytajkoeodabmgeaa
