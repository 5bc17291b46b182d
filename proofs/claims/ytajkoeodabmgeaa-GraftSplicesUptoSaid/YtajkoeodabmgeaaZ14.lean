import Derived.Test.YtajkoeodabmgeaaZ12
import Derived.Test.YtajkoeodabmgeaaZ13
import Derived.Test.YtajkoeodabmgeaaX6
import Derived.Test.YtajkoeodabmgeaaZ11

section
namespace Go.Proofs.Ytajkoeodabmgeaa
open Go.RowKit
set_option maxHeartbeats 2000000
set_option maxRecDepth 100000

theorem lastOk_nil {l : List ByteArray} {s : ByteArray} (h : l.length = 0) : lastOk l s = true := by
  obtain rfl := List.eq_nil_of_length_eq_zero h; rfl
theorem lastOk_some {l : List ByteArray} {s : ByteArray} {m : Nat} (h : l.length = m + 1) : lastOk l s = bl (sepAt l m) s := by
  rw [lastOk, h, Nat.add_sub_cancel, List.getElem?_eq_getElem (by omega), sepAt_get (by omega)]
theorem lastP_nil {l : List PairD} {s : ByteArray} (h : l.length = 0) : lastOk (l.map (·.k)) s = true := lastOk_nil (by simpa using h)
theorem lastP_some {l : List PairD} {s : ByteArray} {m : Nat} (h : l.length = m + 1) : lastOk (l.map (·.k)) s = bl (keyAt l m) s := by
  rw [lastOk_some (m := m) (by simpa using h), sepAt_get (by simp; omega), keyAt_get (by omega), List.getElem_map]
theorem headP_nil {l : List PairD} {s : ByteArray} (h : l.length = 0) : headP l s = true := by
  obtain rfl := List.eq_nil_of_length_eq_zero h; rfl
theorem headP_some {l : List PairD} {s : ByteArray} {n : Nat} (h : l.length = n + 1) : headP l s = !bl (keyAt l 0) s := by
  rw [headP, List.getElem?_eq_getElem (by omega), keyAt_get (by omega)]
theorem headS_nil {l : List ByteArray} {s : ByteArray} (h : l.length = 0) : headS l s = true := by
  obtain rfl := List.eq_nil_of_length_eq_zero h; rfl
theorem headS_some {l : List ByteArray} {s : ByteArray} {n : Nat} (h : l.length = n + 1) : headS l s = bl s (sepAt l 0) := by
  rw [headS, List.getElem?_eq_getElem (by omega), sepAt_get (by omega)]

theorem joined_c (pg wd : Int) (x : VH) (L : NodeD) (s : ByteArray) (y : VH) (R : NodeD) (w : World) (hL : RdN w x.A0 x.c0 x.A1 x.c1 x.A2 x.c2 L) (hR : RdN w y.A0 y.c0 y.A1 y.c1 y.A2 y.c2 R) (hsm : s.size ≤ 140737488355328)
    (hp : (L.pairs.length + R.pairs.length) * 32 ≤ 140737488355328) (hs : (L.seps.length + R.seps.length + 1) * 16 ≤ 140737488355328) (hk : (L.kids.length + R.kids.length) * 36 ≤ 140737488355328) :
    Calls Try.prog 89 #[vF pg wd, vH x L s y R] w fun e w' => JoinPost pg wd L s R w e w' := by
  cases hr : right pg wd with
  | false => exact join_wrong pg wd x L s y R w hr
  | true =>
    cases hl : leafB pg wd L && leafB pg wd R with
    | true =>
      have hl' := hl
      rw [Bool.and_eq_true] at hl'
      obtain ⟨h1, h2⟩ := hl'
      have hE : joinE pg wd L s R = if leafStand pg L s R then 0 else 81 := by simp [joinE, hr, hl]
      cases k1 : (s.toList == []) with
      | true => exact join_leaf_b1 pg wd x L s y R w hL hR hsm hr h1 h2 k1 (by rw [hE]; simp [leafStand, sepOk, k1])
      | false =>
        cases k2 : decide ((s.size : Int) ≤ pg / 16) with
        | false => exact join_leaf_b2 pg wd x L s y R w hL hR hsm hr h1 h2 k1 k2 (by rw [hE]; simp only [leafStand, sepOk, k1, k2]; rfl)
        | true =>
          rcases hm : L.pairs.length with _ | m <;> rcases hn : R.pairs.length with _ | n
          · exact join_leaf_g1 pg wd x L s y R w hL hR hsm hr h1 h2 k1 k2 hm hn (by rw [hE]; simp only [leafStand, sepOk, k1, k2, lastP_nil hm, headP_nil hn]; rfl) hp
          · cases hq : bl (keyAt R.pairs 0) s with
            | true => exact join_leaf_b4 pg wd x L s y R w hL hR hsm hr h1 h2 k1 k2 hm n hn _ rfl hq (by rw [hE]; simp only [leafStand, sepOk, k1, k2, lastP_nil hm, headP_some hn, hq]; rfl)
            | false => exact join_leaf_g2 pg wd x L s y R w hL hR hsm hr h1 h2 k1 k2 hm n hn _ rfl hq (by rw [hE]; simp only [leafStand, sepOk, k1, k2, lastP_nil hm, headP_some hn, hq]; rfl) hp
          · cases ho : bl (keyAt L.pairs m) s with
            | false => exact join_leaf_b3 pg wd x L s y R w hL hR hsm hr h1 h2 k1 k2 m hm _ rfl ho (by rw [hE]; simp only [leafStand, sepOk, k1, k2, lastP_some hm, ho]; rfl)
            | true => exact join_leaf_g3 pg wd x L s y R w hL hR hsm hr h1 h2 k1 k2 m hm _ rfl ho hn (by rw [hE]; simp only [leafStand, sepOk, k1, k2, lastP_some hm, ho, headP_nil hn]; rfl) hp
          · cases ho : bl (keyAt L.pairs m) s with
            | false => exact join_leaf_b3 pg wd x L s y R w hL hR hsm hr h1 h2 k1 k2 m hm _ rfl ho (by rw [hE]; simp only [leafStand, sepOk, k1, k2, lastP_some hm, ho]; rfl)
            | true =>
              cases hq : bl (keyAt R.pairs 0) s with
              | true => exact join_leaf_b5 pg wd x L s y R w hL hR hsm hr h1 h2 k1 k2 m hm _ rfl ho n hn _ rfl hq (by rw [hE]; simp only [leafStand, sepOk, k1, k2, lastP_some hm, ho, headP_some hn, hq]; rfl)
              | false => exact join_leaf_g4 pg wd x L s y R w hL hR hsm hr h1 h2 k1 k2 m hm _ rfl ho n hn _ rfl hq (by rw [hE]; simp only [leafStand, sepOk, k1, k2, lastP_some hm, ho, headP_some hn, hq]; rfl) hp
    | false =>
      cases hb : branchB pg wd L && branchB pg wd R with
      | false => exact join_neither pg wd x L s y R w hL hR hr hl hb
      | true =>
        have hb' := hb
        rw [Bool.and_eq_true] at hb'
        obtain ⟨h1, h2⟩ := hb'
        have hnl : leafB pg wd L = false := by
          have := (of_decide_eq_true h1).1
          rw [leafB, decide_eq_false_iff_not]; omega
        have hE : joinE pg wd L s R = if brStand pg L s R then 0 else 81 := by simp [joinE, hr, hl, hb]
        cases k1 : (s.toList == []) with
        | true => exact join_branch_b1 pg wd x L s y R w hL hR hsm hr h1 h2 hnl k1 (by rw [hE]; simp [brStand, sepOk, k1])
        | false =>
          cases k2 : decide ((s.size : Int) ≤ pg / 16) with
          | false => exact join_branch_b2 pg wd x L s y R w hL hR hsm hr h1 h2 hnl k1 k2 (by rw [hE]; simp only [brStand, sepOk, k1, k2]; rfl)
          | true =>
            have hbad : ∀ t : ByteArray, bl t s = true → bl s t = false := fun t h => lt_asymm h
            have hbad2 : ∀ t : ByteArray, (t.toList == s.toList) = true → bl s t = false := fun t h => by
              have h' : t.toList = s.toList := by simpa using h
              rw [bl, h']; exact lt_irrefl _
            have hgood : ∀ t : ByteArray, bl t s = false → (t.toList == s.toList) = false → bl s t = true := fun t h h' => by
              rcases lt_total t.toList s.toList with e | e | e
              · rw [bl] at h; rw [show Op.bytesLess t.toList s.toList = true from e] at h; cases h
              · rw [e] at h'; simp at h'
              · exact e
            rcases hm : L.seps.length with _ | m <;> rcases hn : R.seps.length with _ | n
            · exact join_branch_g1 pg wd x L s y R w hL hR hsm hr h1 h2 hnl k1 k2 hm hn (by rw [hE]; simp only [brStand, sepOk, k1, k2, lastOk_nil hm, headS_nil hn]; rfl) hs hk
            · cases hq : bl (sepAt R.seps 0) s with
              | true => exact join_branch_b4 pg wd x L s y R w hL hR hsm hr h1 h2 hnl k1 k2 hm n hn _ rfl hq (by rw [hE]; simp only [brStand, sepOk, k1, k2, lastOk_nil hm, headS_some hn, hbad _ hq]; rfl)
              | false =>
                cases hq2 : ((sepAt R.seps 0).toList == s.toList) with
                | true => exact join_branch_b6 pg wd x L s y R w hL hR hsm hr h1 h2 hnl k1 k2 hm n hn _ rfl hq hq2 (by rw [hE]; simp only [brStand, sepOk, k1, k2, lastOk_nil hm, headS_some hn, hbad2 _ hq2]; rfl)
                | false => exact join_branch_g2 pg wd x L s y R w hL hR hsm hr h1 h2 hnl k1 k2 hm n hn _ rfl hq hq2 (by rw [hE]; simp only [brStand, sepOk, k1, k2, lastOk_nil hm, headS_some hn, hgood _ hq hq2]; rfl) hs hk
            · cases ho : bl (sepAt L.seps m) s with
              | false => exact join_branch_b3 pg wd x L s y R w hL hR hsm hr h1 h2 hnl k1 k2 m hm _ rfl ho (by rw [hE]; simp only [brStand, sepOk, k1, k2, lastOk_some hm, ho]; rfl)
              | true => exact join_branch_g3 pg wd x L s y R w hL hR hsm hr h1 h2 hnl k1 k2 m hm _ rfl ho hn (by rw [hE]; simp only [brStand, sepOk, k1, k2, lastOk_some hm, ho, headS_nil hn]; rfl) hs hk
            · cases ho : bl (sepAt L.seps m) s with
              | false => exact join_branch_b3 pg wd x L s y R w hL hR hsm hr h1 h2 hnl k1 k2 m hm _ rfl ho (by rw [hE]; simp only [brStand, sepOk, k1, k2, lastOk_some hm, ho]; rfl)
              | true =>
                cases hq : bl (sepAt R.seps 0) s with
                | true => exact join_branch_b5 pg wd x L s y R w hL hR hsm hr h1 h2 hnl k1 k2 m hm _ rfl ho n hn _ rfl hq (by rw [hE]; simp only [brStand, sepOk, k1, k2, lastOk_some hm, ho, headS_some hn, hbad _ hq]; rfl)
                | false =>
                  cases hq2 : ((sepAt R.seps 0).toList == s.toList) with
                  | true => exact join_branch_b7 pg wd x L s y R w hL hR hsm hr h1 h2 hnl k1 k2 m hm _ rfl ho n hn _ rfl hq hq2 (by rw [hE]; simp only [brStand, sepOk, k1, k2, lastOk_some hm, ho, headS_some hn, hbad2 _ hq2]; rfl)
                  | false => exact join_branch_g4 pg wd x L s y R w hL hR hsm hr h1 h2 hnl k1 k2 m hm _ rfl ho n hn _ rfl hq hq2 (by rw [hE]; simp only [brStand, sepOk, k1, k2, lastOk_some hm, ho, headS_some hn, hgood _ hq hq2]; rfl) hs hk

end Go.Proofs.Ytajkoeodabmgeaa
end

section
namespace Go.Proofs.Ytajkoeodabmgeaa
open Go.RowKit
set_option maxHeartbeats 4000000
set_option maxRecDepth 100000
attribute [local go_sem] grow_cell grow_frozen grow_size

theorem full_v' (pg wd : Int) (z : VH) (nd : NodeD) (w : World) (hN : RdN w z.A0 z.c0 z.A1 z.c1 z.A2 z.c2 nd) (b : Bool) (hb : fullB pg wd nd = b) :
    Calls Try.prog 35 #[vF pg wd, vN z.A0 z.c0 z.A1 z.c1 z.A2 z.c2 nd] w fun e w' => e = .returned (.bool b) ∧ Below w.heap.size w w' := by
  subst hb; exact full_c pg wd _ _ _ _ _ _ nd w hN

/-- The bounds under which two halves can be made one. -/
structure JoinOk (L : NodeD) (s : ByteArray) (R : NodeD) : Prop where
  s : s.size ≤ 140737488355328
  p : (L.pairs.length + R.pairs.length) * 32 ≤ 140737488355328
  q : (L.seps.length + R.seps.length + 1) * 16 ≤ 140737488355328
  k : (L.kids.length + R.kids.length) * 36 ≤ 140737488355328

theorem joined_v (pg wd : Int) (x : VH) (L : NodeD) (s : ByteArray) (y : VH) (R : NodeD) (hJ : JoinOk L s R) (J : NodeD) (hJd : joinR pg wd L s R = J) (E : Int) (hEd : joinE pg wd L s R = E) :
    ∀ w, RdN w x.A0 x.c0 x.A1 x.c1 x.A2 x.c2 L → RdN w y.A0 y.c0 y.A1 y.c1 y.A2 y.c2 R → Calls Try.prog 89 #[vF pg wd, vH x L s y R] w fun e w' =>
      ∃ z : VH, e = .returned (.tuple #[vN z.A0 z.c0 z.A1 z.c1 z.A2 z.c2 J, .int .i64 E]) ∧ VH.own z w' w.heap.size w'.heap.size J ∧ Below w.heap.size w w' := by
  subst hJd hEd
  intro w h1 h2
  exact joined_c pg wd x L s y R w h1 h2 hJ.s hJ.p hJ.q hJ.k

def mergeE (pg wd : Int) (L : NodeD) (s : ByteArray) (R : NodeD) : Int := if joinE pg wd L s R = 0 ∧ fullB pg wd (joinR pg wd L s R) = true then 5 else joinE pg wd L s R
def mergeR (pg wd : Int) (L : NodeD) (s : ByteArray) (R : NodeD) : NodeD := if joinE pg wd L s R = 0 ∧ fullB pg wd (joinR pg wd L s R) = true then noN else joinR pg wd L s R

theorem merge_c (pg wd : Int) (x : VH) (L : NodeD) (s : ByteArray) (y : VH) (R : NodeD) (w : World) (hL : RdN w x.A0 x.c0 x.A1 x.c1 x.A2 x.c2 L) (hR : RdN w y.A0 y.c0 y.A1 y.c1 y.A2 y.c2 R) (hJ : JoinOk L s R) :
    Calls Try.prog 55 #[vF pg wd, vH x L s y R] w fun e w' =>
      ∃ z : VH, e = .returned (.tuple #[vN z.A0 z.c0 z.A1 z.c1 z.A2 z.c2 (mergeR pg wd L s R), .int .i64 (mergeE pg wd L s R)]) ∧ VH.own z w' w.heap.size w'.heap.size (mergeR pg wd L s R) ∧ Below w.heap.size w w' := by
  obtain ⟨J, hJd⟩ : ∃ J, joinR pg wd L s R = J := ⟨_, rfl⟩
  obtain ⟨E, hEd⟩ : ∃ E, joinE pg wd L s R = E := ⟨_, rfl⟩
  have HJC := Lib.hid (joined_v pg wd x L s y R hJ J hJd E hEd)
  have HL := Lib.hid hL
  have HRD := Lib.hid hR
  clear hJ hL hR
  by_cases hc : E = 0
  · subst hc
    obtain ⟨f, hf⟩ : ∃ f, fullB pg wd J = f := ⟨_, rfl⟩
    have hME : mergeE pg wd L s R = if f = true then 5 else 0 := by simp [mergeE, hJd, hEd, hf]
    have hMR : mergeR pg wd L s R = if f = true then noN else J := by simp [mergeR, hJd, hEd, hf]
    rw [hME, hMR]
    have HF := Lib.hid hf
    clear hf hME hMR hJd hEd
    cases f
    all_goals
      simp only [if_true, Bool.false_eq_true, if_false]
      go_enter Try.func55, Try.ntmps55
      go_wp2_with (first
        | (go_at_call 89; go_must (
           refine (HJC.out _ (HL.out.below join_base) (HRD.out.below join_base)).mono ?_; rintro e w1 ⟨z, rfl, hown, hb⟩
           have hB1 := join_first hb
           have HO := Lib.hid hown
           clear hown hb
           obtain ⟨⟨s0, s1⟩, _⟩ := join_boxes hB1
           have hz := join_size hB1
           have z0 : w.heap.size < w1.heap.size := (by omega)))
        | (go_at_call 35; go_must (
           refine (full_v' pg wd z J _ ((OwN.rd HO.out).below ((Below.refl _ _).alloc (Nat.le_refl _) _)) _ HF.out).mono ?_; rintro e w2 ⟨rfl, hb2⟩
           have hB2 := join_next hB1 (below_a hb2)
           have hg := join_row hB2
           have hr := one_row hb2
           have HO2 := Lib.hid (OwN.below HO.out (below_a hb2))
           have hsz := (below_a hb2).size
           obtain ⟨⟨p0, p1, p2⟩, _⟩ := box_facts hr
           clear s0 s1 z0))
        | (refine wpList_store_row rfl 29 (.tmp 4) (.tmp 21) rfl (w.heap.size + 1 + 1) zero3 rfl rfl 29 _ hg info29' rfl (sl3_one _ _ _ _ _ _ _ _ _) ?_)
        | (refine wpList_store_row rfl 29 (.tmp 4) (.tmp 22) rfl (w.heap.size + 1 + 1) (node3 z J) rfl rfl 29 _ hg info29' rfl (sl3_one _ _ _ _ _ _ _ _ _) ?_))
      first
        | (refine bodyPost_ret (results_ct rfl _ _ (w.heap.size + 1 + 1) 29 zero3 (0, 0) _ rfl (setRow_block _ _ _ _ _ _ hg) Try.underlying29 rfl info29') rfl ?_
           exact ⟨⟨none, 0, none, 0, none, 0⟩, rfl, own_noN _ _ _, below_setRow (join_below hB2) (by omega) _⟩)
        | (refine bodyPost_ret (results_ct rfl _ _ (w.heap.size + 1 + 1) 29 (node3 z J) (0, 0) _ rfl (setRow_block _ _ _ _ _ _ hg) Try.underlying29 rfl info29') rfl ?_
           exact ⟨z, rfl, (OwN.setRow' (OwN.wide HO2.out (Nat.le_refl _) (Nat.le_refl _)) _ _ (.inl (by simp))).wide (by simp <;> omega) (by simp [World.setRow]; omega), below_setRow (join_below hB2) (by omega) _⟩)
  · have hcc : (E == 0) = false := by simp [hc]
    have hME : mergeE pg wd L s R = E := by rw [mergeE, hEd, if_neg (fun h => hc h.1)]
    have hMR : mergeR pg wd L s R = J := by rw [mergeR, hJd, hEd, if_neg (fun h => hc h.1)]
    rw [hME, hMR]
    clear hME hMR hJd hEd hc
    go_enter Try.func55, Try.ntmps55
    go_wp2_with (first
      | (go_at_call 89; go_must (
         refine (HJC.out _ (HL.out.below join_base) (HRD.out.below join_base)).mono ?_; rintro e w1 ⟨z, rfl, hown, hb⟩
         have hB1 := join_first hb
         have HO := Lib.hid (OwN.below hown ((Below.refl _ _).alloc (Nat.le_refl _) (.cells (node3 z J) 29)))
         have hz := join_size hB1
         have hg := join_row (hB1.alloc hz (.cells (node3 z J) 29))
         have hb' := (join_below hB1).alloc (by omega) (.cells (node3 z J) 29)
         clear hown hb))
      | (refine wpList_store_row rfl 29 (.tmp 4) (.tmp 22) rfl (w.heap.size + 1 + 1) (node3 z J) rfl rfl 29 _ hg info29' rfl (sl3_one _ _ _ _ _ _ _ _ _) ?_))
    refine bodyPost_ret (results_ct rfl _ _ (w.heap.size + 1 + 1) 29 (node3 z J) (0, 0) _ rfl (setRow_block _ _ _ _ _ _ hg) Try.underlying29 rfl info29') rfl ?_
    exact ⟨z, rfl, (OwN.setRow' (OwN.wide HO.out (Nat.le_refl _) (Nat.le_refl _)) _ _ (.inl (by simp))).wide (by simp <;> omega) (by simp [World.setRow]), below_setRow hb' (by omega) _⟩

end Go.Proofs.Ytajkoeodabmgeaa
end

section
namespace Go.Proofs.Ytajkoeodabmgeaa
open Go.RowKit
set_option maxHeartbeats 4000000
set_option maxRecDepth 100000
attribute [local go_sem] grow_cell grow_frozen grow_size

abbrev borW (w : World) (pg wd : Int) (x : VH) (L : NodeD) (s : ByteArray) (y : VH) (R : NodeD) : World :=
  ((w.alloc (.cells #[.int .i64 pg, .int .i64 wd] 24)).alloc (.cells (cells7 x L s y R) 54)).alloc (.cells zero7 54)
section
variable {w w1 w2 : World} {pg wd : Int} {x y : VH} {L R : NodeD} {s : ByteArray}
theorem bor_size (h : Below (w.heap.size + 1 + 1 + 1) (borW w pg wd x L s y R) w1) : w.heap.size + 1 + 1 + 1 ≤ w1.heap.size := by
  have := h.size; simpa [borW] using this
theorem bor_first (hb : Below (borW w pg wd x L s y R).heap.size (borW w pg wd x L s y R) w1) : Below (w.heap.size + 1 + 1 + 1) (borW w pg wd x L s y R) w1 := hb.mono (by simp [borW])
theorem bor_next (h : Below (w.heap.size + 1 + 1 + 1) (borW w pg wd x L s y R) w1) (hb : Below w1.heap.size w1 w2) : Below (w.heap.size + 1 + 1 + 1) (borW w pg wd x L s y R) w2 := h.trans (hb.mono (bor_size h))
theorem bor_base : Below w.heap.size w (borW w pg wd x L s y R) :=
  ((((Below.refl _ _).alloc (Nat.le_refl _) _).alloc (by simp) _).alloc (by simp <;> omega) _)
theorem bor_below (h : Below (w.heap.size + 1 + 1 + 1) (borW w pg wd x L s y R) w1) : Below w.heap.size w w1 := bor_base.trans (h.mono (by omega))
theorem bor_row (h : Below (w.heap.size + 1 + 1 + 1) (borW w pg wd x L s y R) w1) : w1.heap[w.heap.size + 1 + 1]? = some (.cells zero7 54 (0, 0)) := (h.block _ (by omega)).trans (alloc3_at w _ _ _)
theorem bor_frame (h : Below (w.heap.size + 1 + 1 + 1) (borW w pg wd x L s y R) w1) :
    w1.cell? ⟨w.heap.size, 0, none⟩ = some (.int .i64 pg) ∧ w1.cell? ⟨w.heap.size, 1, none⟩ = some (.int .i64 wd) := by
  have h0 : w1.heap[w.heap.size]? = some (.cells #[.int .i64 pg, .int .i64 wd] 24 (0, 0)) := (h.block _ (by omega)).trans (alloc3_0 w _ _ _)
  exact ⟨cell_of_row _ _ 0 _ _ _ h0, cell_of_row _ _ 1 _ _ _ h0⟩
end

def borrowE (pg wd : Int) (L : NodeD) (s : ByteArray) (R : NodeD) : Int := if joinE pg wd L s R = 0 then splitE pg wd (joinR pg wd L s R) else joinE pg wd L s R
def borrowL (pg wd : Int) (L : NodeD) (s : ByteArray) (R : NodeD) : NodeD := if joinE pg wd L s R = 0 then splitL pg wd (joinR pg wd L s R) else noN
def borrowS (pg wd : Int) (L : NodeD) (s : ByteArray) (R : NodeD) : ByteArray := if joinE pg wd L s R = 0 then splitS pg wd (joinR pg wd L s R) else ⟨#[]⟩
def borrowR (pg wd : Int) (L : NodeD) (s : ByteArray) (R : NodeD) : NodeD := if joinE pg wd L s R = 0 then splitR pg wd (joinR pg wd L s R) else noN

def HalvesPost (w : World) (BL : NodeD) (BS : ByteArray) (BR : NodeD) (rest : Array Value) (e : Ending) (w' : World) : Prop :=
  ∃ (x y : VH) (mid : Nat), e = .returned (.tuple (#[vH x BL BS y BR] ++ rest)) ∧ VH.own x w' w.heap.size mid BL ∧ VH.own y w' mid w'.heap.size BR ∧ Below w.heap.size w w' ∧ w.heap.size ≤ mid ∧ mid ≤ w'.heap.size

theorem split_v (pg wd : Int) (z : VH) (nd : NodeD) (w : World) (hN : RdN w z.A0 z.c0 z.A1 z.c1 z.A2 z.c2 nd) (BL : NodeD) (hBL : splitL pg wd nd = BL) (BS : ByteArray) (hBS : splitS pg wd nd = BS) (BR : NodeD) (hBR : splitR pg wd nd = BR) (E : Int) (hE : splitE pg wd nd = E) :
    Calls Try.prog 32 #[vF pg wd, vN z.A0 z.c0 z.A1 z.c1 z.A2 z.c2 nd] w fun e w' =>
      ∃ (x y : VH) (mid : Nat), e = .returned (.tuple #[vH x BL BS y BR, .int .i64 E]) ∧ VH.own x w' w.heap.size mid BL ∧ VH.own y w' mid w'.heap.size BR ∧ Below w.heap.size w w' ∧ w.heap.size ≤ mid := by
  subst hBL hBS hBR hE
  exact split_c pg wd _ _ _ _ _ _ nd w hN

theorem VH.own_min {x : VH} {w : World} {lo hi : Nat} {nd : NodeD} (h : VH.own x w lo hi nd) : VH.own x w lo (min hi w.heap.size) nd :=
  { h with u0 := fun k hk => Nat.lt_min.2 ⟨h.u0 k hk, own_lt h.pairs k hk⟩, u1 := fun k hk => Nat.lt_min.2 ⟨h.u1 k hk, own_lt h.seps k hk⟩, u2 := fun k hk => Nat.lt_min.2 ⟨h.u2 k hk, own_lt h.kids k hk⟩ }

theorem halves_noN (w w1 : World) (rest : Array Value) (hb : Below w.heap.size w w1) :
    HalvesPost w noN ⟨#[]⟩ noN rest (.returned (.tuple (#[.agg zero7] ++ rest))) w1 :=
  ⟨⟨none, 0, none, 0, none, 0⟩, ⟨none, 0, none, 0, none, 0⟩, w.heap.size, rfl, own_noN _ _ _, own_noN _ _ _, hb, Nat.le_refl _, hb.size⟩

/-- The two halves in the result's box. -/
theorem halves_fin {w w3 W : World} {x y : VH} {mid g : Nat} {BL BR : NodeD} {BS : ByteArray} {lo : Nat} (cs : Array Value) (rest : Array Value) (hx : VH.own x w3 lo mid BL) (hy : VH.own y w3 mid w3.heap.size BR) (hlo : lo ≤ mid) (hlo3 : lo ≤ w3.heap.size) (hb : Below w3.heap.size w3 W)
    (hg : g < lo) (hw : w.heap.size ≤ lo) (hB : Below w.heap.size w (W.setRow g cs)) :
    HalvesPost w BL BS BR rest (.returned (.tuple (#[vH x BL BS y BR] ++ rest))) (W.setRow g cs) := by
  have hs := hb.size
  have hss : (W.setRow g cs).heap.size = W.heap.size := by simp [World.setRow]
  have hx' := VH.own_min hx
  refine ⟨x, y, min mid w3.heap.size, rfl, ?_, ?_, hB, by omega, by omega⟩
  · exact (OwN.setRow' (OwN.below hx' hb) _ _ (.inl hg)).wide hw (Nat.le_refl _)
  · exact (OwN.setRow' (OwN.below hy hb) _ _ (.inl (by omega))).wide (by omega) (by omega)

theorem borrow_c (pg wd : Int) (x : VH) (L : NodeD) (s : ByteArray) (y : VH) (R : NodeD) (w : World) (hL : RdN w x.A0 x.c0 x.A1 x.c1 x.A2 x.c2 L) (hR : RdN w y.A0 y.c0 y.A1 y.c1 y.A2 y.c2 R) (hJ : JoinOk L s R) :
    Calls Try.prog 52 #[vF pg wd, vH x L s y R] w fun e w' => HalvesPost w (borrowL pg wd L s R) (borrowS pg wd L s R) (borrowR pg wd L s R) #[.int .i64 (borrowE pg wd L s R)] e w' := by
  obtain ⟨J, hJd⟩ : ∃ J, joinR pg wd L s R = J := ⟨_, rfl⟩
  obtain ⟨E, hEd⟩ : ∃ E, joinE pg wd L s R = E := ⟨_, rfl⟩
  have HJC := Lib.hid (joined_v pg wd x L s y R hJ J hJd E hEd)
  have HL := Lib.hid hL
  have HRD := Lib.hid hR
  clear hJ hL hR
  by_cases hc : E = 0
  · subst hc
    obtain ⟨BL, hBL⟩ : ∃ X, splitL pg wd J = X := ⟨_, rfl⟩
    obtain ⟨BS, hBS⟩ : ∃ X, splitS pg wd J = X := ⟨_, rfl⟩
    obtain ⟨BR, hBR⟩ : ∃ X, splitR pg wd J = X := ⟨_, rfl⟩
    obtain ⟨F, hF⟩ : ∃ X, splitE pg wd J = X := ⟨_, rfl⟩
    have HSC := Lib.hid (fun z w h => split_v pg wd z J w h BL hBL BS hBS BR hBR F hF)
    rw [borrowL, borrowS, borrowR, borrowE, if_pos hEd, if_pos hEd, if_pos hEd, if_pos hEd, hJd, hBL, hBS, hBR, hF]
    clear hJd hEd hBL hBS hBR hF
    go_enter Try.func52, Try.ntmps52
    go_wp2_with (first
      | (go_at_call 89; go_must (
         refine (HJC.out _ (HL.out.below bor_base) (HRD.out.below bor_base)).mono ?_; rintro e w1 ⟨z, rfl, hown, hb⟩
         have hB1 := bor_first hb
         have HO := Lib.hid (OwN.rd (OwN.below hown ((Below.refl _ _).alloc (Nat.le_refl _) (.cells (node3 z J) 29))))
         have hz := bor_size hB1
         have hB1a := hB1.alloc hz (.cells (node3 z J) 29)
         have hg := bor_row hB1a
         obtain ⟨s0, s1⟩ := bor_frame hB1
         have z0 : w.heap.size < w1.heap.size := (by omega)
         clear hown hb))
      | (go_at_call 32; go_must (
         refine (HSC.out z _ HO.out).mono ?_; rintro e w2 ⟨x', y', mid, rfl, hx, hy, hb2, hmid⟩
         have HX := Lib.hid hx
         have HY := Lib.hid hy
         have hB2 := bor_next hB1a hb2
         have hg2 := bor_row hB2
         have hs2 := hb2.size
         clear hx hy))
      | (refine wpList_store_row rfl 54 (.tmp 4) (.tmp 21) rfl (w.heap.size + 1 + 1) (cells7 x' BL BS y' BR) rfl rfl 54 zero7 hg2 info54 rfl (own7 x' y' _ _ _) ?_))
    refine bodyPost_ret (results_ct rfl _ _ (w.heap.size + 1 + 1) 54 (cells7 x' BL BS y' BR) (0, 0) _ rfl (setRow_block _ _ _ _ _ _ hg2) Try.underlying54 rfl info54) rfl ?_
    simp only [World.size_alloc] at hs2 hmid
    exact halves_fin _ #[.int .i64 F] HX.out HY.out (by simpa using hmid) (by simpa using hs2) (Below.refl _ _) (by simp; omega) (by simp; omega) (below_setRow (bor_below hB2) (by omega) _)
  · have hcc : (E != 0) = true := by simp [hc]
    rw [borrowL, borrowS, borrowR, borrowE, hEd, if_neg hc, if_neg hc, if_neg hc, if_neg hc]
    clear hJd hEd hc
    go_enter Try.func52, Try.ntmps52
    go_wp2_with (first
      | (go_at_call 89; go_must (
         refine (HJC.out _ (HL.out.below bor_base) (HRD.out.below bor_base)).mono ?_; rintro e w1 ⟨z, rfl, hown, hb⟩
         have hB1 := bor_first hb
         have HO := Lib.hid (OwN.rd (OwN.below hown ((Below.refl _ _).alloc (Nat.le_refl _) (.cells (node3 z J) 29))))
         have hz := bor_size hB1
         have hB1a := hB1.alloc hz (.cells (node3 z J) 29)
         have hg := bor_row hB1a
         obtain ⟨s0, s1⟩ := bor_frame hB1
         have z0 : w.heap.size < w1.heap.size := (by omega)
         clear hown hb))
      | (refine wpList_store_row rfl 54 (.tmp 4) (.tmp 16) rfl (w.heap.size + 1 + 1) zero7 rfl rfl 54 zero7 hg info54 rfl zero7_one ?_))
    refine bodyPost_ret (results_ct rfl _ _ (w.heap.size + 1 + 1) 54 zero7 (0, 0) _ rfl (setRow_block _ _ _ _ _ _ hg) Try.underlying54 rfl info54) rfl ?_
    exact halves_noN w _ #[.int .i64 E] (below_setRow (bor_below hB1a) (by omega) _)

end Go.Proofs.Ytajkoeodabmgeaa
end

section
namespace Go.Proofs.Ytajkoeodabmgeaa
open Go.RowKit
set_option maxHeartbeats 4000000
set_option maxRecDepth 100000
attribute [local go_sem] grow_cell grow_frozen grow_size

def mendE (pg wd : Int) (L : NodeD) (s : ByteArray) (R : NodeD) : Int := if joinE pg wd L s R = 0 then (if fullB pg wd (joinR pg wd L s R) = true then splitE pg wd (joinR pg wd L s R) else 0) else joinE pg wd L s R
def mendB (pg wd : Int) (L : NodeD) (s : ByteArray) (R : NodeD) : Bool := if joinE pg wd L s R = 0 then (if fullB pg wd (joinR pg wd L s R) = true then false else true) else false
def mendL (pg wd : Int) (L : NodeD) (s : ByteArray) (R : NodeD) : NodeD := if joinE pg wd L s R = 0 then (if fullB pg wd (joinR pg wd L s R) = true then splitL pg wd (joinR pg wd L s R) else joinR pg wd L s R) else noN
def mendS (pg wd : Int) (L : NodeD) (s : ByteArray) (R : NodeD) : ByteArray := if joinE pg wd L s R = 0 then (if fullB pg wd (joinR pg wd L s R) = true then splitS pg wd (joinR pg wd L s R) else ⟨#[]⟩) else ⟨#[]⟩
def mendR (pg wd : Int) (L : NodeD) (s : ByteArray) (R : NodeD) : NodeD := if joinE pg wd L s R = 0 then (if fullB pg wd (joinR pg wd L s R) = true then splitR pg wd (joinR pg wd L s R) else noN) else noN

theorem mend_c (pg wd : Int) (x : VH) (L : NodeD) (s : ByteArray) (y : VH) (R : NodeD) (w : World) (hL : RdN w x.A0 x.c0 x.A1 x.c1 x.A2 x.c2 L) (hR : RdN w y.A0 y.c0 y.A1 y.c1 y.A2 y.c2 R) (hJ : JoinOk L s R) :
    Calls Try.prog 57 #[vF pg wd, vH x L s y R] w fun e w' => HalvesPost w (mendL pg wd L s R) (mendS pg wd L s R) (mendR pg wd L s R) #[.bool (mendB pg wd L s R), .int .i64 (mendE pg wd L s R)] e w' := by
  obtain ⟨J, hJd⟩ : ∃ J, joinR pg wd L s R = J := ⟨_, rfl⟩
  obtain ⟨E, hEd⟩ : ∃ E, joinE pg wd L s R = E := ⟨_, rfl⟩
  have HJC := Lib.hid (joined_v pg wd x L s y R hJ J hJd E hEd)
  have HL := Lib.hid hL
  have HRD := Lib.hid hR
  clear hJ hL hR
  by_cases hc : E = 0
  · subst hc
    obtain ⟨f, hf⟩ : ∃ f, fullB pg wd J = f := ⟨_, rfl⟩
    obtain ⟨BL, hBL⟩ : ∃ X, splitL pg wd J = X := ⟨_, rfl⟩
    obtain ⟨BS, hBS⟩ : ∃ X, splitS pg wd J = X := ⟨_, rfl⟩
    obtain ⟨BR, hBR⟩ : ∃ X, splitR pg wd J = X := ⟨_, rfl⟩
    obtain ⟨F, hF⟩ : ∃ X, splitE pg wd J = X := ⟨_, rfl⟩
    have HSC := Lib.hid (fun z w h => split_v pg wd z J w h BL hBL BS hBS BR hBR F hF)
    rw [mendL, mendS, mendR, mendB, mendE, if_pos hEd, if_pos hEd, if_pos hEd, if_pos hEd, if_pos hEd, hJd, hf, hBL, hBS, hBR, hF]
    have HF := Lib.hid hf
    clear hJd hEd hBL hBS hBR hF hf
    cases f
    all_goals
      simp only [if_true, Bool.false_eq_true, if_false]
      go_enter Try.func57, Try.ntmps57
      go_wp2_with (first
        | (go_at_call 89; go_must (
           refine (HJC.out _ (HL.out.below bor_base) (HRD.out.below bor_base)).mono ?_; rintro e w1 ⟨z, rfl, hown, hb⟩
           have hB1 := bor_first hb
           have HO := Lib.hid (OwN.rd (OwN.below hown ((Below.refl _ _).alloc (Nat.le_refl _) (.cells (node3 z J) 29))))
           have HOW := Lib.hid (OwN.below hown ((Below.refl _ _).alloc (Nat.le_refl _) (.cells (node3 z J) 29)))
           have hz := bor_size hB1
           have hB1a := hB1.alloc hz (.cells (node3 z J) 29)
           have hg := bor_row hB1a
           obtain ⟨s0, s1⟩ := bor_frame hB1
           have z0 : w.heap.size < w1.heap.size := (by omega)
           clear hown hb))
        | (go_at_call 35; go_must (
           refine (full_v' pg wd z J _ HO.out _ HF.out).mono ?_; rintro e w2 ⟨rfl, hb2⟩
           have hB2 := bor_next hB1a hb2
           have hg2 := bor_row hB2
           have hr := one_row hb2
           have HO2 := Lib.hid (HO.out.below hb2)
           have HN2 := Lib.hid (OwN.below HOW.out hb2)
           have hs2 := hb2.size
           have z1 : w1.heap.size < w2.heap.size := (by simp only [World.size_alloc] at hs2; omega)
           clear s0 s1 z0
           obtain ⟨s0, s1⟩ := bor_frame hB2
           obtain ⟨⟨p0, p1, p2⟩, _⟩ := box_facts hr))
        | (go_at_call 32; go_must (
           refine (HSC.out z _ HO2.out).mono ?_; rintro e w3 ⟨x', y', mid, rfl, hx, hy, hb3, hmid⟩
           have HX := Lib.hid hx
           have HY := Lib.hid hy
           have hB3 := bor_next hB2 hb3
           have hs3 := hb3.size
           have hg3 := bor_row (hB3.alloc (bor_size hB3) (.cells (cells7 x' BL BS y' BR) 54))
           clear hx hy s0 s1 p0 p1 p2))
        | (refine wpList_store_row rfl 54 (.tmp 4) (.tmp 25) rfl (w.heap.size + 1 + 1) #[.slice z.A0 J.pairs.length z.c0, .slice z.A1 J.seps.length z.c1, .slice z.A2 J.kids.length z.c2, .string ⟨#[]⟩, .slice none 0 0, .slice none 0 0, .slice none 0 0] rfl rfl 54 zero7 hg2 info54 rfl (own7 z ⟨none, 0, none, 0, none, 0⟩ J noN _) ?_)
        | (refine wpList_store_row rfl 54 (.tmp 4) (.tmp 32) rfl (w.heap.size + 1 + 1) (cells7 x' BL BS y' BR) rfl rfl 54 zero7 hg3 info54 rfl (own7 x' y' _ _ _) ?_))
      first
        | (refine bodyPost_ret (results_ctt rfl _ _ (w.heap.size + 1 + 1) 54 #[.slice z.A0 J.pairs.length z.c0, .slice z.A1 J.seps.length z.c1, .slice z.A2 J.kids.length z.c2, .string ⟨#[]⟩, .slice none 0 0, .slice none 0 0, .slice none 0 0] (0, 0) _ rfl (setRow_block _ _ _ _ _ _ hg2) Try.underlying54 rfl info54) rfl ?_
           exact halves_fin (x := z) (y := ⟨none, 0, none, 0, none, 0⟩) (BR := noN) (BS := ⟨#[]⟩) (mid := w2.heap.size) _ #[.bool true, .int .i64 0] (OwN.wide (OwN.top HN2.out) (Nat.le_refl _) (Nat.le_refl _)) (own_noN _ _ _) (by simp only [World.size_alloc] at hs2; simp; omega) (by simp only [World.size_alloc] at hs2; simp; omega) (Below.refl _ _) (by simp) (by simp; omega) (below_setRow (bor_below hB2) (by omega) _))
        | (refine bodyPost_ret (results_ctt rfl _ _ (w.heap.size + 1 + 1) 54 (cells7 x' BL BS y' BR) (0, 0) _ rfl (setRow_block _ _ _ _ _ _ hg3) Try.underlying54 rfl info54) rfl ?_
           exact halves_fin _ #[.bool false, .int .i64 F] HX.out HY.out hmid hs3 ((Below.refl _ _).alloc (Nat.le_refl _) _) (by omega) (by omega) (below_setRow ((bor_below hB3).alloc (by have := bor_size hB3; omega) _) (by omega) _))
  · have hcc : (E != 0) = true := by simp [hc]
    rw [mendL, mendS, mendR, mendB, mendE, hEd, if_neg hc, if_neg hc, if_neg hc, if_neg hc, if_neg hc]
    clear hJd hEd hc
    go_enter Try.func57, Try.ntmps57
    go_wp2_with (first
      | (go_at_call 89; go_must (
         refine (HJC.out _ (HL.out.below bor_base) (HRD.out.below bor_base)).mono ?_; rintro e w1 ⟨z, rfl, hown, hb⟩
         have hB1 := bor_first hb
         have HO := Lib.hid (OwN.rd (OwN.below hown ((Below.refl _ _).alloc (Nat.le_refl _) (.cells (node3 z J) 29))))
         have hz := bor_size hB1
         have hB1a := hB1.alloc hz (.cells (node3 z J) 29)
         have hg := bor_row hB1a
         obtain ⟨s0, s1⟩ := bor_frame hB1
         have z0 : w.heap.size < w1.heap.size := (by omega)
         clear hown hb))
      | (refine wpList_store_row rfl 54 (.tmp 4) (.tmp 18) rfl (w.heap.size + 1 + 1) zero7 rfl rfl 54 zero7 hg info54 rfl zero7_one ?_))
    refine bodyPost_ret (results_ctt rfl _ _ (w.heap.size + 1 + 1) 54 zero7 (0, 0) _ rfl (setRow_block _ _ _ _ _ _ hg) Try.underlying54 rfl info54) rfl ?_
    exact halves_noN w _ #[.bool false, .int .i64 E] (below_setRow (bor_below hB1a) (by omega) _)

end Go.Proofs.Ytajkoeodabmgeaa
end

section
namespace Go.Proofs.Ytajkoeodabmgeaa
open Go.RowKit
set_option maxHeartbeats 2000000
set_option maxRecDepth 100000

/-! Halves of a cut, made one, are the node: plain. -/
theorem splitE_zero' {pg wd : Int} {nd : NodeD} (h : splitE pg wd nd = 0) : right pg wd = true ∧ checkE pg wd nd = 0 ∧ ∃ j, j < cutsN nd ∧ splitAt' pg wd nd = firstN nd + j := by
  have h0 := h
  unfold splitE at h0
  split at h0
  · rename_i h1
    split at h0
    · rename_i h2
      split at h0
      · cases h0
      · rename_i h3
        exact ⟨h1, h2, (places_mem h2).1 ((bestOf_mem pg wd nd (places pg wd nd)).resolve_left h3)⟩
    · cases h0
  · cases h0

theorem toList_size (s : ByteArray) : s.toList.length = s.size := by rw [toList_data]; simp
theorem sepOk_of {pg : Int} {s : ByteArray} (h1 : 1 ≤ s.size) (h2 : (s.size : Int) ≤ pg / 16) : sepOk pg s = true := by
  have h3 : (s.toList == []) = false := by
    rw [beq_eq_false_iff_ne]
    intro h
    have := toList_size s
    rw [h] at this
    simp at this
    omega
  rw [sepOk, h3, decide_eq_true h2]; rfl

structure OnceP (pg wd : Int) (nd : NodeD) : Prop where
  e : joinE pg wd (splitL pg wd nd) (splitS pg wd nd) (splitR pg wd nd) = 0
  r : joinR pg wd (splitL pg wd nd) (splitS pg wd nd) (splitR pg wd nd) = nd
  s : (splitS pg wd nd).size ≤ 8192
  p : (splitL pg wd nd).pairs.length + (splitR pg wd nd).pairs.length ≤ nd.pairs.length
  q : (splitL pg wd nd).seps.length + (splitR pg wd nd).seps.length ≤ nd.seps.length
  k : (splitL pg wd nd).kids.length + (splitR pg wd nd).kids.length ≤ nd.kids.length

theorem sepS_le (l r : ByteArray) : (sepS l r).size ≤ r.size := by
  unfold sepS
  split
  · simp; omega
  · exact Nat.zero_le _
theorem once_leaf {pg wd : Int} {l : List PairD} (hr : right pg wd = true) (hok : leafOk pg l) (k : Nat) (h1 : 1 ≤ k) (h2 : k < l.length) :
    joinE pg wd ⟨l.take k, [], []⟩ (sepS (keyAt l (k - 1)) (keyAt l k)) ⟨l.drop k, [], []⟩ = 0 ∧ (sepS (keyAt l (k - 1)) (keyAt l k)).size ≤ 8192 := by
  have okL : leafOk pg (l.take k) := ⟨hok.1.sublist (List.take_sublist k l), fun q h => hok.2 q (List.mem_of_mem_take h)⟩
  have okR : leafOk pg (l.drop k) := ⟨hok.1.sublist (List.drop_sublist k l), fun q h => hok.2 q (List.mem_of_mem_drop h)⟩
  have hL := (leafOk_iff (wd := wd) hr).2 okL
  have hR := (leafOk_iff (wd := wd) hr).2 okR
  have hs : bl (keyAt l (k - 1)) (keyAt l k) = true := by
    rw [keyAt_get (show k - 1 < l.length by omega), keyAt_get h2]
    have h := hok.1
    rw [up, List.pairwise_iff_getElem] at h
    exact h (k - 1) k (by omega) h2 (by omega)
  have a1 := sep_above hs
  have a2 := sep_below hs
  have hz : (sepS (keyAt l (k - 1)) (keyAt l k)).size ≤ (keyAt l k).size := sepS_le _ _
  have hk := (hok.2 _ (List.getElem_mem h2)).1
  rw [← keyAt_get h2] at hk
  have hp := right_page hr
  have hs1 : 1 ≤ (sepS (keyAt l (k - 1)) (keyAt l k)).size := by
    rcases Nat.eq_zero_or_pos (sepS (keyAt l (k - 1)) (keyAt l k)).size with h | h
    · have h3 : (sepS (keyAt l (k - 1)) (keyAt l k)).toList = [] := List.eq_nil_of_length_eq_zero (by rw [toList_size]; exact h)
      rw [bl, h3] at a1
      rw [show Op.bytesLess (keyAt l (k - 1)).toList [] = false from lt_nil _] at a1
      cases a1
    · exact h
  have hst : leafStand pg ⟨l.take k, [], []⟩ (sepS (keyAt l (k - 1)) (keyAt l k)) ⟨l.drop k, [], []⟩ = true := by
    have e1 : (l.take k).length = (k - 1) + 1 := by rw [List.length_take]; omega
    obtain ⟨n, e2⟩ : ∃ n, (l.drop k).length = n + 1 := ⟨(l.drop k).length - 1, by rw [List.length_drop]; omega⟩
    have e3 : keyAt (l.take k) (k - 1) = keyAt l (k - 1) := by rw [keyAt_get (by omega), keyAt_get (by omega), List.getElem_take]
    have e4 : keyAt (l.drop k) 0 = keyAt l k := by rw [keyAt_get (by omega), keyAt_get h2, List.getElem_drop]; rfl
    rw [leafStand, sepOk_of hs1 (by omega)]
    simp only [lastP_some e1, headP_some e2, e3, e4, a1, a2]
    rfl
  refine ⟨?_, by omega⟩
  rw [joinE, if_pos hr, hL, hR, if_pos (by rfl), if_pos hst]

theorem once_branch {pg wd : Int} {ss : List ByteArray} {ks : List KidD} (hr : right pg wd = true) (hok : brOk pg wd.toNat ss ks) (k : Nat) (h1 : 2 ≤ k) (h2 : k + 2 ≤ ks.length) :
    joinE pg wd ⟨[], ss.take (k - 1), ks.take k⟩ (sepAt ss (k - 1)) ⟨[], ss.drop k, ks.drop k⟩ = 0 ∧ (sepAt ss (k - 1)).size ≤ 8192 := by
  obtain ⟨hks, hss, hfit, hri⟩ := hok
  have okL : brOk pg wd.toNat (ss.take (k - 1)) (ks.take k) :=
    ⟨by rw [List.length_take]; omega, by rw [List.length_take, List.length_take]; omega, fun ⟨x, hx, hf⟩ => hfit ⟨x, List.mem_of_mem_take hx, hf⟩, rises_take hri _⟩
  have okR : brOk pg wd.toNat (ss.drop k) (ks.drop k) :=
    ⟨by rw [List.length_drop]; omega, by rw [List.length_drop, List.length_drop]; omega, fun ⟨x, hx, hf⟩ => hfit ⟨x, List.mem_of_mem_drop hx, hf⟩, rises_drop hri _⟩
  have cL := (szBranch hr okL).1
  have cR := (szBranch hr okR).1
  have bL : branchB pg wd ⟨[], ss.take (k - 1), ks.take k⟩ = true := by rw [branchB, decide_eq_true_iff]; exact ⟨by have := okL.1; show 0 < (ks.take k).length; omega, cL⟩
  have bR : branchB pg wd ⟨[], ss.drop k, ks.drop k⟩ = true := by rw [branchB, decide_eq_true_iff]; exact ⟨by have := okR.1; show 0 < (ks.drop k).length; omega, cR⟩
  have nL : leafB pg wd ⟨[], ss.take (k - 1), ks.take k⟩ = false := by
    rw [leafB, decide_eq_false_iff_not]; rintro ⟨h, _⟩; have := okL.1; simp only at h; omega
  have hlt := rises_lt hri
  have hp := right_page hr
  have hk1 : k - 1 < ss.length := by omega
  have hsz := (hri (k - 1) hk1).1
  rw [← sepAt_get hk1] at hsz
  have hst : brStand pg ⟨[], ss.take (k - 1), ks.take k⟩ (sepAt ss (k - 1)) ⟨[], ss.drop k, ks.drop k⟩ = true := by
    have e1 : (ss.take (k - 1)).length = (k - 2) + 1 := by rw [List.length_take]; omega
    obtain ⟨n, e2⟩ : ∃ n, (ss.drop k).length = n + 1 := ⟨(ss.drop k).length - 1, by rw [List.length_drop]; omega⟩
    have e3 : sepAt (ss.take (k - 1)) (k - 2) = ss[k - 2] := by rw [sepAt_get (by omega), List.getElem_take]
    have e4 : sepAt (ss.drop k) 0 = ss[k] := by rw [sepAt_get (by omega), List.getElem_drop]; rfl
    have a1 := hlt (k - 2) (k - 1) (by omega) hk1
    have a2 := hlt (k - 1) k (by omega) (by omega)
    rw [brStand, sepOk_of hsz.1 hsz.2]
    simp only [lastOk_some e1, headS_some e2, e3, e4]
    rw [sepAt_get hk1, a1, a2]
    rfl
  refine ⟨?_, by omega⟩
  rw [joinE, if_pos hr, nL, Bool.false_and, if_neg (by decide), bL, bR, if_pos (by rfl), if_pos hst]

theorem once_plain {pg wd : Int} {nd : NodeD} (hE : splitE pg wd nd = 0) : OnceP pg wd nd := by
  obtain ⟨hr, hc, j, hj, hat⟩ := splitE_zero' hE
  have e1 : splitL pg wd nd = halvesL nd (splitAt' pg wd nd) := by rw [splitL, if_pos hE]
  have e2 : splitR pg wd nd = halvesR nd (splitAt' pg wd nd) := by rw [splitR, if_pos hE]
  have e3 : splitS pg wd nd = halvesS nd (splitAt' pg wd nd) := by rw [splitS, if_pos hE]
  by_cases hk : leafD nd
  · have hlf : leafB pg wd nd = true := by rw [leafB_iff, decide_eq_true_iff]; exact ⟨hc, hk⟩
    obtain ⟨l, rfl⟩ : ∃ l, nd = ⟨l, [], []⟩ := ⟨_, leaf_same hlf⟩
    have hok := (leafOk_iff hr).1 hlf
    have hcu : cutsN ⟨l, [], []⟩ = l.length - 1 := rfl
    have hf : firstN ⟨l, [], []⟩ = 1 := rfl
    rw [hcu] at hj
    rw [hf] at hat
    have h := once_leaf hr hok (1 + j) (by omega) (by omega)
    rw [hat] at e1 e2 e3
    have e1 : splitL pg wd ⟨l, [], []⟩ = ⟨l.take (1 + j), [], []⟩ := by rw [e1]; simp [halvesL]
    have e2 : splitR pg wd ⟨l, [], []⟩ = ⟨l.drop (1 + j), [], []⟩ := by rw [e2]; simp [halvesR]
    have e3 : splitS pg wd ⟨l, [], []⟩ = sepS (keyAt l (1 + j - 1)) (keyAt l (1 + j)) := by rw [e3]; simp [halvesS]
    refine ⟨?_, ?_, ?_, ?_, ?_, ?_⟩
    · rw [e1, e2, e3]; exact h.1
    · rw [e1, e2, e3, joinR, if_pos h.1, joinN]; simp
    · rw [e3]; exact h.2
    · rw [e1, e2]; simp; omega
    · rw [e1, e2]; simp
    · rw [e1, e2]; simp
  · obtain ⟨hnd, hok⟩ := br_of hc hk
    generalize nd.seps = ss at *
    generalize nd.kids = ks at *
    subst hnd
    have hks := hok.1
    have hss := hok.2.1
    have hk0 : ¬ ks.length = 0 := by omega
    have hcu : cutsN ⟨[], ss, ks⟩ = ks.length - 3 := by unfold cutsN; rw [if_neg hk0]
    have hf : firstN ⟨[], ss, ks⟩ = 2 := by unfold firstN; rw [if_neg hk0]
    rw [hcu] at hj
    rw [hf] at hat
    have h := once_branch hr hok (2 + j) (by omega) (by omega)
    rw [hat] at e1 e2 e3
    have e1 : splitL pg wd ⟨[], ss, ks⟩ = ⟨[], ss.take (2 + j - 1), ks.take (2 + j)⟩ := by rw [e1, halvesL, if_neg hk0]
    have e2 : splitR pg wd ⟨[], ss, ks⟩ = ⟨[], ss.drop (2 + j), ks.drop (2 + j)⟩ := by rw [e2, halvesR, if_neg hk0]
    have e3 : splitS pg wd ⟨[], ss, ks⟩ = sepAt ss (2 + j - 1) := by rw [e3, halvesS, if_neg hk0]; rfl
    have hkt : ¬ (ks.take (2 + j)).length = 0 := by rw [List.length_take]; omega
    have hlt : 2 + j - 1 < ss.length := by omega
    refine ⟨?_, ?_, ?_, ?_, ?_, ?_⟩
    · rw [e1, e2, e3]; exact h.1
    · rw [e1, e2, e3, joinR, if_pos h.1, joinN, if_neg hkt, sepAt_get hlt]
      simp only [List.take_append_drop, NodeD.mk.injEq, true_and, and_true]
      rw [← List.take_succ_eq_append_getElem hlt, show 2 + j - 1 + 1 = 2 + j by omega, List.take_append_drop]
    · rw [e3]; exact h.2
    · rw [e1, e2]; simp
    · rw [e1, e2]; simp; omega
    · rw [e1, e2]; simp; omega

end Go.Proofs.Ytajkoeodabmgeaa
end
