import Derived.Test.YtajkoeodabmgeaaZ11

section
namespace Go.Proofs.Ytajkoeodabmgeaa
open Go.RowKit
set_option maxHeartbeats 2000000
set_option maxRecDepth 100000
attribute [local go_sem] grow_cell grow_frozen grow_size

theorem putP_at (A0 B0 : Option Addr) (c0 d0 : Nat) (l r : List PairD) (cur : World) (hR : Rd cur 2 A0 l.length (pcells l)) (hS : Rd cur 2 B0 r.length (pcells r)) (hc : l.length ≤ c0) (hl : (l.length + r.length) * 32 ≤ 140737488355328) (i m : Nat) (x y : Int) (hx : x = i) (hy : y = m) (h : i + m ≤ l.length)
    (L : List PairD) (hL : l.take i ++ r ++ l.drop (i + m) = L) :
    Calls Try.prog 65 #[.slice A0 l.length c0, .int .i64 x, .int .i64 y, .slice B0 r.length d0] cur fun e w' =>
      (∃ A c, e = .returned (.slice A L.length c) ∧ w'.ownsRow cur.heap.size 31 2 (.slice A L.length c) L.length (pcells L)) ∧ Below cur.heap.size cur w' := by
  subst hx hy hL
  refine (putP_c A0 B0 l.length c0 r.length d0 i m (pcells l) (pcells r) _ hR hS hc h hl (pc1 _) (pc1 _)).mono ?_
  rintro e w' ⟨⟨v, rfl, hown⟩, hb⟩
  have hl : (l.take i ++ r ++ l.drop (i + m)).length = l.length - m + r.length := by simp; omega
  have hp : pcells (l.take i ++ r ++ l.drop (i + m)) = (pcells l).take (i * 2) ++ pcells r ++ (pcells l).drop ((i + m) * 2) := by rw [pcells_append, pcells_append, pcells_take, pcells_drop]
  rw [← hp, ← hl] at hown
  obtain ⟨A, c, rfl, _, _⟩ := own_rd hown
  exact ⟨⟨A, c, rfl, hown⟩, hb⟩
theorem putK_at (A0 B0 : Option Addr) (c0 d0 : Nat) (l r : List KidD) (cur : World) (hR : Rd cur 33 A0 l.length (kcells l)) (hS : Rd cur 33 B0 r.length (kcells r)) (hc : l.length ≤ c0) (hl : (l.length + r.length) * 36 ≤ 140737488355328) (i m : Nat) (x y : Int) (hx : x = i) (hy : y = m) (h : i + m ≤ l.length)
    (hk : ∀ q ∈ l, q.sum.length = 32) (L : List KidD) (hL : l.take i ++ r ++ l.drop (i + m) = L) :
    Calls Try.prog 85 #[.slice A0 l.length c0, .int .i64 x, .int .i64 y, .slice B0 r.length d0] cur fun e w' =>
      (∃ A c, e = .returned (.slice A L.length c) ∧ w'.ownsRow cur.heap.size 85 33 (.slice A L.length c) L.length (kcells L)) ∧ Below cur.heap.size cur w' := by
  subst hx hy hL
  refine (putK_c A0 B0 l.length c0 r.length d0 i m (kcells l) (kcells r) _ hR hS hc h hl (kc1 _) (kc1 _)).mono ?_
  rintro e w' ⟨⟨v, rfl, hown⟩, hb⟩
  have hl : (l.take i ++ r ++ l.drop (i + m)).length = l.length - m + r.length := by simp; omega
  have hp : kcells (l.take i ++ r ++ l.drop (i + m)) = (kcells l).take (i * 33) ++ kcells r ++ (kcells l).drop ((i + m) * 33) := by rw [kcells_append, kcells_append, kcells_take _ _ hk, kcells_drop _ _ hk]
  rw [← hp, ← hl] at hown
  obtain ⟨A, c, rfl, _, _⟩ := own_rd hown
  exact ⟨⟨A, c, rfl, hown⟩, hb⟩
theorem putS_at (A0 B0 : Option Addr) (c0 d0 : Nat) (l r : List ByteArray) (cur : World) (hR : Rd cur 1 A0 l.length (scells l)) (hS : Rd cur 1 B0 r.length (scells r)) (hc : l.length ≤ c0) (hl : (l.length + r.length) * 16 ≤ 140737488355328) (i m : Nat) (x y : Int) (hx : x = i) (hy : y = m) (h : i + m ≤ l.length)
    (L : List ByteArray) (hL : l.take i ++ r ++ l.drop (i + m) = L) :
    Calls Try.prog 86 #[.slice A0 l.length c0, .int .i64 x, .int .i64 y, .slice B0 r.length d0] cur fun e w' =>
      (∃ A c, e = .returned (.slice A L.length c) ∧ w'.ownsRow cur.heap.size 9 1 (.slice A L.length c) L.length (scells L)) ∧ Below cur.heap.size cur w' := by
  subst hx hy hL
  refine (putS_c A0 B0 l.length c0 r.length d0 i m (scells l) (scells r) _ hR hS hc h hl (sc1 _) (sc1 _)).mono ?_
  rintro e w' ⟨⟨v, rfl, hown⟩, hb⟩
  have hl : (l.take i ++ r ++ l.drop (i + m)).length = l.length - m + r.length := by simp; omega
  have hp : scells (l.take i ++ r ++ l.drop (i + m)) = (scells l).take (i * 1) ++ scells r ++ (scells l).drop ((i + m) * 1) := by rw [scells_append, scells_append, scells_take, scells_drop]
  rw [← hp, ← hl] at hown
  obtain ⟨A, c, rfl, _, _⟩ := own_rd hown
  exact ⟨⟨A, c, rfl, hown⟩, hb⟩

def sepAt (l : List ByteArray) (k : Nat) : ByteArray := l[k]?.getD ⟨#[]⟩
theorem sepAt_get {l : List ByteArray} {k : Nat} (h : k < l.length) : sepAt l k = l[k] := by simp [sepAt, h]
/-- Is the last key below the separator, or none there? -/
def lastOk (l : List ByteArray) (s : ByteArray) : Bool := match l[l.length - 1]? with | none => true | some k => bl k s
def headP (l : List PairD) (s : ByteArray) : Bool := match l[0]? with | none => true | some p => !bl p.k s
def headS (l : List ByteArray) (s : ByteArray) : Bool := match l[0]? with | none => true | some t => bl s t
def sepOk (pg : Int) (s : ByteArray) : Bool := !(s.toList == []) && decide ((s.size : Int) ≤ pg / 16)
def leafStand (pg : Int) (L : NodeD) (s : ByteArray) (R : NodeD) : Bool := sepOk pg s && lastOk (L.pairs.map (·.k)) s && headP R.pairs s
def brStand (pg : Int) (L : NodeD) (s : ByteArray) (R : NodeD) : Bool := sepOk pg s && lastOk L.seps s && headS R.seps s
def joinE (pg wd : Int) (L : NodeD) (s : ByteArray) (R : NodeD) : Int :=
  if right pg wd then (if leafB pg wd L && leafB pg wd R then (if leafStand pg L s R then 0 else 81) else if branchB pg wd L && branchB pg wd R then (if brStand pg L s R then 0 else 81) else 80) else 2
/-- Two nodes made one. -/
def joinN (L : NodeD) (s : ByteArray) (R : NodeD) : NodeD := if L.kids.length = 0 then ⟨L.pairs ++ R.pairs, [], []⟩ else ⟨[], L.seps ++ [s] ++ R.seps, L.kids ++ R.kids⟩
def joinR (pg wd : Int) (L : NodeD) (s : ByteArray) (R : NodeD) : NodeD := if joinE pg wd L s R = 0 then joinN L s R else noN

abbrev JoinPost (pg wd : Int) (L : NodeD) (s : ByteArray) (R : NodeD) (w : World) (e : Ending) (w' : World) : Prop :=
  ∃ z : VH, e = .returned (.tuple #[vN z.A0 z.c0 z.A1 z.c1 z.A2 z.c2 (joinR pg wd L s R), .int .i64 (joinE pg wd L s R)]) ∧ VH.own z w' w.heap.size w'.heap.size (joinR pg wd L s R) ∧ Below w.heap.size w w'

theorem join_err (w w1 : World) (pg wd : Int) (L : NodeD) (s : ByteArray) (R : NodeD) (E : Int) (hE : joinE pg wd L s R = E) (hne : E ≠ 0) (hb : Below w.heap.size w w1) :
    JoinPost pg wd L s R w (Ending.returned (.tuple #[.agg #[.slice none 0 0, .slice none 0 0, .slice none 0 0], .int .i64 E])) w1 := by
  have hR : joinR pg wd L s R = noN := by rw [joinR, if_neg (by omega)]
  refine ⟨⟨none, 0, none, 0, none, 0⟩, ?_, ?_, hb⟩
  · rw [hR, hE]; rfl
  · rw [hR]; exact own_noN _ _ _

abbrev zero3 : Array Value := #[.slice none 0 0, .slice none 0 0, .slice none 0 0]
abbrev node3 (x : VH) (nd : NodeD) : Array Value := #[.slice x.A0 nd.pairs.length x.c0, .slice x.A1 nd.seps.length x.c1, .slice x.A2 nd.kids.length x.c2]
abbrev joinW (w : World) (pg wd : Int) (x : VH) (L : NodeD) (s : ByteArray) (y : VH) (R : NodeD) : World :=
  ((w.alloc (.cells #[.int .i64 pg, .int .i64 wd] 24)).alloc (.cells (cells7 x L s y R) 54)).alloc (.cells zero3 29)
section
variable {w w1 w2 : World} {pg wd : Int} {x y : VH} {L R : NodeD} {s : ByteArray}
theorem join_size (h : Below (w.heap.size + 1 + 1 + 1) (joinW w pg wd x L s y R) w1) : w.heap.size + 1 + 1 + 1 ≤ w1.heap.size := by
  have := h.size; simpa [joinW] using this
theorem join_first (hb : Below (joinW w pg wd x L s y R).heap.size (joinW w pg wd x L s y R) w1) : Below (w.heap.size + 1 + 1 + 1) (joinW w pg wd x L s y R) w1 := hb.mono (by simp [joinW])
theorem join_next (h : Below (w.heap.size + 1 + 1 + 1) (joinW w pg wd x L s y R) w1) (hb : Below w1.heap.size w1 w2) : Below (w.heap.size + 1 + 1 + 1) (joinW w pg wd x L s y R) w2 := h.trans (hb.mono (join_size h))
theorem join_base : Below w.heap.size w (joinW w pg wd x L s y R) :=
  ((((Below.refl _ _).alloc (Nat.le_refl _) _).alloc (by simp) _).alloc (by simp <;> omega) _)
theorem join_below (h : Below (w.heap.size + 1 + 1 + 1) (joinW w pg wd x L s y R) w1) : Below w.heap.size w w1 := join_base.trans (h.mono (by omega))
theorem join_row (h : Below (w.heap.size + 1 + 1 + 1) (joinW w pg wd x L s y R) w1) : w1.heap[w.heap.size + 1 + 1]? = some (.cells zero3 29 (0, 0)) := (h.block _ (by omega)).trans (alloc3_at w _ _ _)
theorem join_boxes (h : Below (w.heap.size + 1 + 1 + 1) (joinW w pg wd x L s y R) w1) :
    (w1.cell? ⟨w.heap.size, 0, none⟩ = some (.int .i64 pg) ∧ w1.cell? ⟨w.heap.size, 1, none⟩ = some (.int .i64 wd)) ∧
    (w1.cell? ⟨w.heap.size + 1, 0, none⟩ = some (.slice x.A0 L.pairs.length x.c0) ∧ w1.cell? ⟨w.heap.size + 1, 1, none⟩ = some (.slice x.A1 L.seps.length x.c1) ∧ w1.cell? ⟨w.heap.size + 1, 2, none⟩ = some (.slice x.A2 L.kids.length x.c2) ∧
     w1.cell? ⟨w.heap.size + 1, 3, none⟩ = some (.string s) ∧
     w1.cell? ⟨w.heap.size + 1, 4, none⟩ = some (.slice y.A0 R.pairs.length y.c0) ∧ w1.cell? ⟨w.heap.size + 1, 5, none⟩ = some (.slice y.A1 R.seps.length y.c1) ∧ w1.cell? ⟨w.heap.size + 1, 6, none⟩ = some (.slice y.A2 R.kids.length y.c2)) := by
  have h0 : w1.heap[w.heap.size]? = some (.cells #[.int .i64 pg, .int .i64 wd] 24 (0, 0)) := (h.block _ (by omega)).trans (alloc3_0 w _ _ _)
  have h1 : w1.heap[w.heap.size + 1]? = some (.cells (cells7 x L s y R) 54 (0, 0)) := (h.block _ (by omega)).trans (alloc3_1 w _ _ _)
  exact ⟨⟨cell_of_row _ _ 0 _ _ _ h0, cell_of_row _ _ 1 _ _ _ h0⟩, cell_of_row _ _ 0 _ _ _ h1, cell_of_row _ _ 1 _ _ _ h1, cell_of_row _ _ 2 _ _ _ h1, cell_of_row _ _ 3 _ _ _ h1, cell_of_row _ _ 4 _ _ _ h1, cell_of_row _ _ 5 _ _ _ h1, cell_of_row _ _ 6 _ _ _ h1⟩
end

/-- After 'l, r := h.Left, h.Right': each in a box. -/
structure JoinG (w : World) (pg wd : Int) (x : VH) (L : NodeD) (s : ByteArray) (y : VH) (R : NodeD) (g : Nat × Nat) (W : World) : Prop where
  bl : Below (w.heap.size + 1 + 1 + 1) (joinW w pg wd x L s y R) W
  rl : W.heap[g.1]? = some (.cells (node3 x L) 29 (0, 0))
  rr : W.heap[g.2]? = some (.cells (node3 y R) 29 (0, 0))
  ll : w.heap.size + 1 + 1 + 1 ≤ g.1
  lr : w.heap.size + 1 + 1 + 1 ≤ g.2
section
variable {w W W' : World} {pg wd : Int} {x y : VH} {L R : NodeD} {s : ByteArray} {g : Nat × Nat}
theorem JoinG.next (h : JoinG w pg wd x L s y R g W) (hb : Below W.heap.size W W') : JoinG w pg wd x L s y R g W' :=
  ⟨join_next h.bl hb, (hb.block _ (Array.getElem?_eq_some_iff.1 h.rl).1).trans h.rl, (hb.block _ (Array.getElem?_eq_some_iff.1 h.rr).1).trans h.rr, h.ll, h.lr⟩
theorem JoinG.facts (h : JoinG w pg wd x L s y R g W) :
    ((W.cell? ⟨w.heap.size, 0, none⟩ = some (.int .i64 pg) ∧ W.cell? ⟨w.heap.size, 1, none⟩ = some (.int .i64 wd)) ∧ W.cell? ⟨w.heap.size + 1, 3, none⟩ = some (.string s)) ∧
    (W.cell? ⟨g.1, 0, none⟩ = some (.slice x.A0 L.pairs.length x.c0) ∧ W.cell? ⟨g.1, 1, none⟩ = some (.slice x.A1 L.seps.length x.c1) ∧ W.cell? ⟨g.1, 2, none⟩ = some (.slice x.A2 L.kids.length x.c2)) ∧
    (W.cell? ⟨g.2, 0, none⟩ = some (.slice y.A0 R.pairs.length y.c0) ∧ W.cell? ⟨g.2, 1, none⟩ = some (.slice y.A1 R.seps.length y.c1) ∧ W.cell? ⟨g.2, 2, none⟩ = some (.slice y.A2 R.kids.length y.c2)) ∧
    (w.heap.size < W.heap.size ∧ w.heap.size + 1 < W.heap.size ∧ g.1 < W.heap.size ∧ g.2 < W.heap.size) := by
  obtain ⟨h1, h2⟩ := join_boxes h.bl
  have h3 := join_size h.bl
  exact ⟨⟨h1, h2.2.2.2.1⟩, ⟨cell_of_row _ _ 0 _ _ _ h.rl, cell_of_row _ _ 1 _ _ _ h.rl, cell_of_row _ _ 2 _ _ _ h.rl⟩, ⟨cell_of_row _ _ 0 _ _ _ h.rr, cell_of_row _ _ 1 _ _ _ h.rr, cell_of_row _ _ 2 _ _ _ h.rr⟩,
    by omega, by omega, (Array.getElem?_eq_some_iff.1 h.rl).1, (Array.getElem?_eq_some_iff.1 h.rr).1⟩
theorem joinG_store {g1 g2 : Nat} {o1 o2 : Array Value} (hb : Below (w.heap.size + 1 + 1 + 1) (joinW w pg wd x L s y R) W) (h1 : W.heap[g1]? = some (.cells o1 29 (0, 0))) (h2 : W.heap[g2]? = some (.cells o2 29 (0, 0))) (hne : g1 ≠ g2)
    (l1 : w.heap.size + 1 + 1 + 1 ≤ g1) (l2 : w.heap.size + 1 + 1 + 1 ≤ g2) : JoinG w pg wd x L s y R (g1, g2) ((W.setRow g1 (node3 x L)).setRow g2 (node3 y R)) :=
  ⟨below_setRow (below_setRow hb l1 _) l2 _, (setRow_other _ _ _ _ hne).trans (setRow_block _ _ _ _ _ _ h1), setRow_block _ _ _ _ _ _ ((setRow_other _ _ _ _ (Ne.symm hne)).trans h2), l1, l2⟩
end

theorem branch_v (pg wd : Int) (A0 A1 A2 : Option Addr) (c0 c1 c2 : Nat) (nd : NodeD) (w : World) (hN : RdN w A0 c0 A1 c1 A2 c2 nd) (b : Bool) (hb : branchB pg wd nd = b) :
    Calls Try.prog 84 #[vF pg wd, vN A0 c0 A1 c1 A2 c2 nd] w fun e w' => e = .returned (.bool b) ∧ Below w.heap.size w w' := by
  subst hb; exact branch_c pg wd A0 A1 A2 c0 c1 c2 nd w hN

end Go.Proofs.Ytajkoeodabmgeaa
end

section
namespace Go.Proofs.Ytajkoeodabmgeaa
open Go.RowKit
set_option maxHeartbeats 4000000
set_option maxRecDepth 100000
attribute [local go_sem] grow_cell grow_frozen grow_size

theorem join_wrong (pg wd : Int) (x : VH) (L : NodeD) (s : ByteArray) (y : VH) (R : NodeD) (w : World) (hr : right pg wd = false) :
    Calls Try.prog 89 #[vF pg wd, vH x L s y R] w fun e w' => JoinPost pg wd L s R w e w' := by
  have HE := Lib.hid (show joinE pg wd L s R = 2 by simp [joinE, hr])
  have HRI := Lib.hid hr
  clear hr
  go_enter Try.func89, Try.ntmps89
  go_wp2_with (first
    | (go_at_call 61; refine (frame_v pg wd _ _ HRI.out).mono ?_; rintro e w1 ⟨rfl, hb⟩; have hB1 := join_first hb; clear hb; have hg := join_row hB1)
    | (refine wpList_store_row rfl 29 (.tmp 4) (.tmp 14) rfl (w.heap.size + 1 + 1) zero3 rfl rfl 29 _ hg info29' rfl (sl3_one _ _ _ _ _ _ _ _ _) ?_))
  refine bodyPost_ret (results_ct rfl _ _ (w.heap.size + 1 + 1) 29 zero3 (0, 0) _ rfl (setRow_block _ _ _ _ _ _ hg) Try.underlying29 rfl info29') rfl ?_
  exact join_err w _ pg wd L s R 2 HE.out (by decide) (below_setRow (join_below hB1) (by omega) _)

theorem join_neither (pg wd : Int) (x : VH) (L : NodeD) (s : ByteArray) (y : VH) (R : NodeD) (w : World) (hL : RdN w x.A0 x.c0 x.A1 x.c1 x.A2 x.c2 L) (hR : RdN w y.A0 y.c0 y.A1 y.c1 y.A2 y.c2 R) (hr : right pg wd = true) (hl : (leafB pg wd L && leafB pg wd R) = false) (hbr : (branchB pg wd L && branchB pg wd R) = false) :
    Calls Try.prog 89 #[vF pg wd, vH x L s y R] w fun e w' => JoinPost pg wd L s R w e w' := by
  have HE := Lib.hid (show joinE pg wd L s R = 80 by simp [joinE, hr, hl, hbr])
  have HRI := Lib.hid hr
  have HL := Lib.hid hL
  have HRD := Lib.hid hR
  clear hr hL hR
  obtain ⟨b1, hb1⟩ : ∃ b, leafB pg wd L = b := ⟨_, rfl⟩
  obtain ⟨b2, hb2⟩ : ∃ b, leafB pg wd R = b := ⟨_, rfl⟩
  obtain ⟨b3, hb3⟩ : ∃ b, branchB pg wd L = b := ⟨_, rfl⟩
  obtain ⟨b4, hb4⟩ : ∃ b, branchB pg wd R = b := ⟨_, rfl⟩
  rw [hb1, hb2] at hl
  rw [hb3, hb4] at hbr
  have H1 := Lib.hid hb1
  have H2 := Lib.hid hb2
  have H3 := Lib.hid hb3
  have H4 := Lib.hid hb4
  clear hb1 hb2 hb3 hb4
  go_enter Try.func89, Try.ntmps89
  go_wp2_with (first
    | (go_at_call 61; refine (frame_v pg wd _ _ HRI.out).mono ?_; rintro e w1 ⟨rfl, hb⟩; have hB1 := join_first hb; clear hb))
  refine region_mid (α := Nat × Nat) (fun X a => ((((((a.put (some 15) (.pointer (some ⟨w.heap.size + 1, 0, none⟩))).put (some 16) (vN x.A0 x.c0 x.A1 x.c1 x.A2 x.c2 L)).put (some 17) (.pointer (some ⟨w.heap.size + 1, 4, none⟩))).put (some 18) (vN y.A0 y.c0 y.A1 y.c1 y.A2 y.c2 R)).put (some 6) (.pointer (some ⟨X.1, 0, none⟩))).put (some 7) (.pointer (some ⟨X.2, 0, none⟩)))) (fun X W => JoinG w pg wd x L s y R X W) ?region ?rest
  case region =>
    have HF := Lib.hid (fun W (h : Below (w.heap.size + 1 + 1 + 1) (joinW w pg wd x L s y R) W) => join_boxes h)
    refine wp_region_tree (S := Below (w.heap.size + 1 + 1 + 1) (joinW w pg wd x L s y R)) (.take 0 (.take 1 (.take 2 (.take 3 (.two 4 5 (.run 5 (.run 6 (.run 7 (.done)))) (.run 4 (.run 6 (.run 7 (.done)))))))))
      (by kernel_rfl) (by kernel_rfl) (by kernel_rfl) (by rintro c a d v W ⟨X, h, _⟩; cases h) hB1.drew ?_
    repeat (apply tree_take; (exact rfl); rfl; (intro W hW; obtain ⟨⟨q0, q1⟩, q2, q3, q4, q5, q6, q7, q8⟩ := HF.out W hW; go_simp; (try with_reducible rfl)); simp only [Act.put, List.setIfInBounds_toArray, List.set_cons_zero, List.set_cons_succ])
    have hlo : w.heap.size + 1 + 1 + 1 ≤ w1.drew.heap.size := join_size hB1.drew
    have h1 := hB1.drew.alloc hlo (.cells zero3 29)
    have h2 := h1.alloc (by rw [World.size_alloc]; omega) (.cells zero3 29)
    have r1 : ((w1.drew.alloc (.cells zero3 29)).alloc (.cells zero3 29)).heap[w1.drew.heap.size]? = some (.cells zero3 29 (0, 0)) := (Below.heap_alloc _ _ _ (by simp)).trans (heap_alloc_new _ _)
    have r2 : ((w1.drew.alloc (.cells zero3 29)).alloc (.cells zero3 29)).heap[w1.drew.heap.size + 1]? = some (.cells zero3 29 (0, 0)) := alloc2_at _ _ _
    refine tree_two ?_ ?_
    ·
      apply tree_run; (exact rfl); rfl; intro K hK; go_simp
      refine hK.out _ _ h1 (fun _ => ?_)
      clear hK K
      try simp only [Act.put, List.setIfInBounds_toArray, List.set_cons_zero, List.set_cons_succ]
      apply tree_run; (exact rfl); rfl; intro K hK; go_simp
      refine hK.out _ _ h2 (fun _ => ?_)
      clear hK K
      try simp only [Act.put, List.setIfInBounds_toArray, List.set_cons_zero, List.set_cons_succ]
      have hG := joinG_store (w := w) (pg := pg) (wd := wd) (x := x) (y := y) (L := L) (R := R) (s := s) h2 r1 r2 (by omega) (by omega) (by omega)
      apply tree_run; (exact rfl); rfl; intro K hK
      refine wp_store_row 29 (.tmp 6) (.tmp 16) rfl (w1.drew.heap.size) (node3 x L) rfl rfl 29 zero3 r1 info29' rfl (sl3_one _ _ _ _ _ _ _ _ _) ?_
      refine hK.out _ _ (below_setRow h2 (by omega) _) (fun _ => ?_)
      clear hK K
      try simp only [Act.put]
      apply tree_run; (exact rfl); rfl; intro K hK
      refine wp_store_row 29 (.tmp 7) (.tmp 18) rfl (w1.drew.heap.size + 1) (node3 y R) rfl rfl 29 zero3 ((setRow_other _ _ _ _ (by omega)).trans r2) info29' rfl (sl3_one _ _ _ _ _ _ _ _ _) ?_
      refine hK.out _ _ hG.bl (fun _ => ?_)
      clear hK K
      try simp only [Act.put]
      exact tree_done ⟨(w1.drew.heap.size, w1.drew.heap.size + 1), rfl, rfl, hG⟩
    ·
      apply tree_run; (exact rfl); rfl; intro K hK; go_simp
      refine hK.out _ _ h1 (fun _ => ?_)
      clear hK K
      try simp only [Act.put, List.setIfInBounds_toArray, List.set_cons_zero, List.set_cons_succ]
      apply tree_run; (exact rfl); rfl; intro K hK; go_simp
      refine hK.out _ _ h2 (fun _ => ?_)
      clear hK K
      try simp only [Act.put, List.setIfInBounds_toArray, List.set_cons_zero, List.set_cons_succ]
      have hG := joinG_store (w := w) (pg := pg) (wd := wd) (x := x) (y := y) (L := L) (R := R) (s := s) h2 r2 r1 (by omega) (by omega) (by omega)
      apply tree_run; (exact rfl); rfl; intro K hK
      refine wp_store_row 29 (.tmp 6) (.tmp 16) rfl (w1.drew.heap.size + 1) (node3 x L) rfl rfl 29 zero3 r2 info29' rfl (sl3_one _ _ _ _ _ _ _ _ _) ?_
      refine hK.out _ _ (below_setRow h2 (by omega) _) (fun _ => ?_)
      clear hK K
      try simp only [Act.put]
      apply tree_run; (exact rfl); rfl; intro K hK
      refine wp_store_row 29 (.tmp 7) (.tmp 18) rfl (w1.drew.heap.size) (node3 y R) rfl rfl 29 zero3 ((setRow_other _ _ _ _ (by omega)).trans r1) info29' rfl (sl3_one _ _ _ _ _ _ _ _ _) ?_
      refine hK.out _ _ hG.bl (fun _ => ?_)
      clear hK K
      try simp only [Act.put]
      exact tree_done ⟨(w1.drew.heap.size + 1, w1.drew.heap.size), rfl, rfl, hG⟩
  case rest =>
  rintro ⟨g1, g2⟩ W hG
  have HG0 := Lib.hid hG
  have HLR := Lib.hid (fun W (h : JoinG w pg wd x L s y R (g1, g2) W) => HL.out.below (join_below h.bl))
  have HRR := Lib.hid (fun W (h : JoinG w pg wd x L s y R (g1, g2) W) => HRD.out.below (join_below h.bl))
  clear hG
  obtain ⟨⟨⟨s0, s1⟩, s2⟩, ⟨m0, m1, m2⟩, ⟨n0, n1, n2⟩, ⟨z0, z1, z2, z3⟩⟩ := HG0.out.facts
  simp only [Act.put, List.setIfInBounds_toArray, List.set_cons_zero, List.set_cons_succ]
  dsimp only at m0 m1 m2 n0 n1 n2 z2 z3
  cases b1 <;> cases b2 <;> cases b3 <;> cases b4 <;> (first | (exact absurd hl (by decide)) | (exact absurd hbr (by decide)) | skip)
  all_goals
    clear hl hbr
    go_wp2_with (first
      | (go_at_call 62; skip; (refine (leaf_v pg wd _ _ _ _ _ _ L _ (HLR.out _ HG0.out) _ H1.out).mono ?_; rintro e w2 ⟨rfl, hb2⟩; have HG1 := Lib.hid (HG0.out.next hb2); clear hb2 HG0 H1; clear s0 s1 s2 m0 m1 m2 n0 n1 n2 z0 z1 z2 z3; obtain ⟨⟨⟨s0, s1⟩, s2⟩, ⟨m0, m1, m2⟩, ⟨n0, n1, n2⟩, ⟨z0, z1, z2, z3⟩⟩ := HG1.out.facts; dsimp only at m0 m1 m2 n0 n1 n2 z2 z3))
      | (go_at_call 62; skip; (refine (leaf_v pg wd _ _ _ _ _ _ R _ (HRR.out _ HG1.out) _ H2.out).mono ?_; rintro e w3 ⟨rfl, hb3⟩; have HG2 := Lib.hid (HG1.out.next hb3); clear hb3 HG1 H2; clear s0 s1 s2 m0 m1 m2 n0 n1 n2 z0 z1 z2 z3; obtain ⟨⟨⟨s0, s1⟩, s2⟩, ⟨m0, m1, m2⟩, ⟨n0, n1, n2⟩, ⟨z0, z1, z2, z3⟩⟩ := HG2.out.facts; dsimp only at m0 m1 m2 n0 n1 n2 z2 z3))
      | (go_at_call 84; skip; (refine (branch_v pg wd _ _ _ _ _ _ L _ (HLR.out _ HG2.out) _ H3.out).mono ?_; rintro e w4 ⟨rfl, hb4⟩; have HG3 := Lib.hid (HG2.out.next hb4); clear hb4 HG2 H3; clear s0 s1 s2 m0 m1 m2 n0 n1 n2 z0 z1 z2 z3; obtain ⟨⟨⟨s0, s1⟩, s2⟩, ⟨m0, m1, m2⟩, ⟨n0, n1, n2⟩, ⟨z0, z1, z2, z3⟩⟩ := HG3.out.facts; dsimp only at m0 m1 m2 n0 n1 n2 z2 z3; have hg := join_row HG3.out.bl))
      | (go_at_call 84; skip; (refine (branch_v pg wd _ _ _ _ _ _ L _ (HLR.out _ HG1.out) _ H3.out).mono ?_; rintro e w4 ⟨rfl, hb4⟩; have HG3 := Lib.hid (HG1.out.next hb4); clear hb4 HG1 H3; clear s0 s1 s2 m0 m1 m2 n0 n1 n2 z0 z1 z2 z3; obtain ⟨⟨⟨s0, s1⟩, s2⟩, ⟨m0, m1, m2⟩, ⟨n0, n1, n2⟩, ⟨z0, z1, z2, z3⟩⟩ := HG3.out.facts; dsimp only at m0 m1 m2 n0 n1 n2 z2 z3; have hg := join_row HG3.out.bl))
      | (go_at_call 84; go_must (refine (branch_v pg wd _ _ _ _ _ _ R _ (HRR.out _ HG3.out) _ H4.out).mono ?_; rintro e w5 ⟨rfl, hb5⟩; have HG4 := Lib.hid (HG3.out.next hb5); clear hb5 HG3 H4 hg; clear s0 s1 s2 m0 m1 m2 n0 n1 n2 z0 z1 z2 z3; obtain ⟨⟨⟨s0, s1⟩, s2⟩, ⟨m0, m1, m2⟩, ⟨n0, n1, n2⟩, ⟨z0, z1, z2, z3⟩⟩ := HG4.out.facts; dsimp only at m0 m1 m2 n0 n1 n2 z2 z3; have hg := join_row HG4.out.bl))
      | (refine wpList_store_row rfl 29 (.tmp 4) (.tmp 168) rfl (w.heap.size + 1 + 1) zero3 rfl rfl 29 _ hg info29' rfl (sl3_one _ _ _ _ _ _ _ _ _) ?_))
    first
      | (clear H4; refine bodyPost_ret (results_ct rfl _ _ (w.heap.size + 1 + 1) 29 zero3 (0, 0) _ rfl (setRow_block _ _ _ _ _ _ hg) Try.underlying29 rfl info29') rfl ?_;   exact join_err w _ pg wd L s R 80 HE.out (by decide) (below_setRow (join_below HG3.out.bl) (by omega) _))
      | (refine bodyPost_ret (results_ct rfl _ _ (w.heap.size + 1 + 1) 29 zero3 (0, 0) _ rfl (setRow_block _ _ _ _ _ _ hg) Try.underlying29 rfl info29') rfl ?_;   exact join_err w _ pg wd L s R 80 HE.out (by decide) (below_setRow (join_below HG4.out.bl) (by omega) _))

end Go.Proofs.Ytajkoeodabmgeaa
end

section
namespace Go.Proofs.Ytajkoeodabmgeaa
open Go.RowKit
set_option maxHeartbeats 4000000
set_option maxRecDepth 100000
attribute [local go_sem] grow_cell grow_frozen grow_size

theorem join_leaf_b1 (pg wd : Int) (x : VH) (L : NodeD) (s : ByteArray) (y : VH) (R : NodeD) (w : World) (hL : RdN w x.A0 x.c0 x.A1 x.c1 x.A2 x.c2 L) (hR : RdN w y.A0 y.c0 y.A1 y.c1 y.A2 y.c2 R) (hsm : s.size ≤ 140737488355328)
    (hr : right pg wd = true) (h1 : leafB pg wd L = true) (h2 : leafB pg wd R = true) (k1 : (s.toList == []) = true) (hE : joinE pg wd L s R = 81) :
    Calls Try.prog 89 #[vF pg wd, vH x L s y R] w fun e w' => JoinPost pg wd L s R w e w' := by
  obtain ⟨⟨h0', h1'⟩, _, _⟩ := right_spec hr
  have h0 : 0 ≤ pg := by omega
  have HRI := Lib.hid hr
  have HL := Lib.hid hL
  have HRD := Lib.hid hR
  have HB1 := Lib.hid h1
  have HB2 := Lib.hid h2
  have hlp := hL.hp
  have hrp := hR.hp
  have HSM : Hid (s.size ≤ 140737488355328) := Lib.hid hsm
  clear hr h1 h2 hL hR h0'
  have h1 := h1'
  have HE := Lib.hid hE
  clear hE
  go_enter Try.func89, Try.ntmps89
  go_wp2_with (first
    | (go_at_call 61; refine (frame_v pg wd _ _ HRI.out).mono ?_; rintro e w1 ⟨rfl, hb⟩; have hB1 := join_first hb; clear hb))
  refine region_mid (α := Nat × Nat) (fun X a => ((((((a.put (some 15) (.pointer (some ⟨w.heap.size + 1, 0, none⟩))).put (some 16) (vN x.A0 x.c0 x.A1 x.c1 x.A2 x.c2 L)).put (some 17) (.pointer (some ⟨w.heap.size + 1, 4, none⟩))).put (some 18) (vN y.A0 y.c0 y.A1 y.c1 y.A2 y.c2 R)).put (some 6) (.pointer (some ⟨X.1, 0, none⟩))).put (some 7) (.pointer (some ⟨X.2, 0, none⟩)))) (fun X W => JoinG w pg wd x L s y R X W) ?region ?rest
  case region =>
    have HF := Lib.hid (fun W (h : Below (w.heap.size + 1 + 1 + 1) (joinW w pg wd x L s y R) W) => join_boxes h)
    refine wp_region_tree (S := Below (w.heap.size + 1 + 1 + 1) (joinW w pg wd x L s y R)) (.take 0 (.take 1 (.take 2 (.take 3 (.two 4 5 (.run 5 (.run 6 (.run 7 (.done)))) (.run 4 (.run 6 (.run 7 (.done)))))))))
      (by kernel_rfl) (by kernel_rfl) (by kernel_rfl) (by rintro c a d v W ⟨X, h, _⟩; cases h) hB1.drew ?_
    repeat (apply tree_take; (exact rfl); rfl; (intro W hW; obtain ⟨⟨q0, q1⟩, q2, q3, q4, q5, q6, q7, q8⟩ := HF.out W hW; go_simp; (try with_reducible rfl)); simp only [Act.put, List.setIfInBounds_toArray, List.set_cons_zero, List.set_cons_succ])
    have hlo : w.heap.size + 1 + 1 + 1 ≤ w1.drew.heap.size := join_size hB1.drew
    have h1 := hB1.drew.alloc hlo (.cells zero3 29)
    have h2 := h1.alloc (by rw [World.size_alloc]; omega) (.cells zero3 29)
    have r1 : ((w1.drew.alloc (.cells zero3 29)).alloc (.cells zero3 29)).heap[w1.drew.heap.size]? = some (.cells zero3 29 (0, 0)) := (Below.heap_alloc _ _ _ (by simp)).trans (heap_alloc_new _ _)
    have r2 : ((w1.drew.alloc (.cells zero3 29)).alloc (.cells zero3 29)).heap[w1.drew.heap.size + 1]? = some (.cells zero3 29 (0, 0)) := alloc2_at _ _ _
    refine tree_two ?_ ?_
    ·
      apply tree_run; (exact rfl); rfl; intro K hK; go_simp
      refine hK.out _ _ h1 (fun _ => ?_)
      clear hK K
      try simp only [Act.put, List.setIfInBounds_toArray, List.set_cons_zero, List.set_cons_succ]
      apply tree_run; (exact rfl); rfl; intro K hK; go_simp
      refine hK.out _ _ h2 (fun _ => ?_)
      clear hK K
      try simp only [Act.put, List.setIfInBounds_toArray, List.set_cons_zero, List.set_cons_succ]
      have hG := joinG_store (w := w) (pg := pg) (wd := wd) (x := x) (y := y) (L := L) (R := R) (s := s) h2 r1 r2 (by omega) (by omega) (by omega)
      apply tree_run; (exact rfl); rfl; intro K hK
      refine wp_store_row 29 (.tmp 6) (.tmp 16) rfl (w1.drew.heap.size) (node3 x L) rfl rfl 29 zero3 r1 info29' rfl (sl3_one _ _ _ _ _ _ _ _ _) ?_
      refine hK.out _ _ (below_setRow h2 (by omega) _) (fun _ => ?_)
      clear hK K
      try simp only [Act.put]
      apply tree_run; (exact rfl); rfl; intro K hK
      refine wp_store_row 29 (.tmp 7) (.tmp 18) rfl (w1.drew.heap.size + 1) (node3 y R) rfl rfl 29 zero3 ((setRow_other _ _ _ _ (by omega)).trans r2) info29' rfl (sl3_one _ _ _ _ _ _ _ _ _) ?_
      refine hK.out _ _ hG.bl (fun _ => ?_)
      clear hK K
      try simp only [Act.put]
      exact tree_done ⟨(w1.drew.heap.size, w1.drew.heap.size + 1), rfl, rfl, hG⟩
    ·
      apply tree_run; (exact rfl); rfl; intro K hK; go_simp
      refine hK.out _ _ h1 (fun _ => ?_)
      clear hK K
      try simp only [Act.put, List.setIfInBounds_toArray, List.set_cons_zero, List.set_cons_succ]
      apply tree_run; (exact rfl); rfl; intro K hK; go_simp
      refine hK.out _ _ h2 (fun _ => ?_)
      clear hK K
      try simp only [Act.put, List.setIfInBounds_toArray, List.set_cons_zero, List.set_cons_succ]
      have hG := joinG_store (w := w) (pg := pg) (wd := wd) (x := x) (y := y) (L := L) (R := R) (s := s) h2 r2 r1 (by omega) (by omega) (by omega)
      apply tree_run; (exact rfl); rfl; intro K hK
      refine wp_store_row 29 (.tmp 6) (.tmp 16) rfl (w1.drew.heap.size + 1) (node3 x L) rfl rfl 29 zero3 r2 info29' rfl (sl3_one _ _ _ _ _ _ _ _ _) ?_
      refine hK.out _ _ (below_setRow h2 (by omega) _) (fun _ => ?_)
      clear hK K
      try simp only [Act.put]
      apply tree_run; (exact rfl); rfl; intro K hK
      refine wp_store_row 29 (.tmp 7) (.tmp 18) rfl (w1.drew.heap.size) (node3 y R) rfl rfl 29 zero3 ((setRow_other _ _ _ _ (by omega)).trans r1) info29' rfl (sl3_one _ _ _ _ _ _ _ _ _) ?_
      refine hK.out _ _ hG.bl (fun _ => ?_)
      clear hK K
      try simp only [Act.put]
      exact tree_done ⟨(w1.drew.heap.size + 1, w1.drew.heap.size), rfl, rfl, hG⟩
  case rest =>
  rintro ⟨g1, g2⟩ W hG
  have HG0 := Lib.hid hG
  have HLR := Lib.hid (fun W (h : JoinG w pg wd x L s y R (g1, g2) W) => HL.out.below (join_below h.bl))
  have HRR := Lib.hid (fun W (h : JoinG w pg wd x L s y R (g1, g2) W) => HRD.out.below (join_below h.bl))
  clear hG
  obtain ⟨⟨⟨s0, s1⟩, s2⟩, ⟨m0, m1, m2⟩, ⟨n0, n1, n2⟩, ⟨z0, z1, z2, z3⟩⟩ := HG0.out.facts
  simp only [Act.put, List.setIfInBounds_toArray, List.set_cons_zero, List.set_cons_succ]
  dsimp only at m0 m1 m2 n0 n1 n2 z2 z3
  go_wp2_with (first
    | (go_at_call 62; skip; (refine (leaf_v pg wd _ _ _ _ _ _ L _ (HLR.out _ HG0.out) _ HB1.out).mono ?_; rintro e w2 ⟨rfl, hb2⟩; have HG1 := Lib.hid (HG0.out.next hb2); clear hb2 HG0 HB1; clear s0 s1 s2 m0 m1 m2 n0 n1 n2 z0 z1 z2 z3; obtain ⟨⟨⟨s0, s1⟩, s2⟩, ⟨m0, m1, m2⟩, ⟨n0, n1, n2⟩, ⟨z0, z1, z2, z3⟩⟩ := HG1.out.facts; dsimp only at m0 m1 m2 n0 n1 n2 z2 z3))
    | (go_at_call 62; go_must (refine (leaf_v pg wd _ _ _ _ _ _ R _ (HRR.out _ HG1.out) _ HB2.out).mono ?_; rintro e w3 ⟨rfl, hb3⟩; have HG2 := Lib.hid (HG1.out.next hb3); clear hb3 HG1 HB2; clear s0 s1 s2 m0 m1 m2 n0 n1 n2 z0 z1 z2 z3; obtain ⟨⟨⟨s0, s1⟩, s2⟩, ⟨m0, m1, m2⟩, ⟨n0, n1, n2⟩, ⟨z0, z1, z2, z3⟩⟩ := HG2.out.facts; dsimp only at m0 m1 m2 n0 n1 n2 z2 z3)))
  refine wp_region_grow (by kernel_rfl) (by kernel_rfl) ?_
  repeat (any_goals (first | go_big_quiet_step ((go_at_call 63; exact quiet_below (maxKey_c pg wd _ h0 h1))) | quiet_step ((go_at_call 63; exact quiet_below (maxKey_c pg wd _ h0 h1)))))
  refine wpQuiet_nil ?_
  intro w3 hb
  have HG3 := Lib.hid (HG2.out.next hb)
  clear hb HG2
  clear s0 s1 s2 m0 m1 m2 n0 n1 n2 z0 z1 z2 z3; obtain ⟨⟨⟨s0, s1⟩, s2⟩, ⟨m0, m1, m2⟩, ⟨n0, n1, n2⟩, ⟨z0, z1, z2, z3⟩⟩ := HG3.out.facts; dsimp only at m0 m1 m2 n0 n1 n2 z2 z3
  go_wp2
  refine wp_region_grow (by kernel_rfl) (by kernel_rfl) ?_
  repeat (any_goals (first | go_big_quiet_step (fail) | quiet_step (fail)))
  refine wpQuiet_nil ?_
  intro w4 hb
  have HG4 := Lib.hid (HG3.out.next hb)
  clear hb HG3
  clear s0 s1 s2 m0 m1 m2 n0 n1 n2 z0 z1 z2 z3; obtain ⟨⟨⟨s0, s1⟩, s2⟩, ⟨m0, m1, m2⟩, ⟨n0, n1, n2⟩, ⟨z0, z1, z2, z3⟩⟩ := HG4.out.facts; dsimp only at m0 m1 m2 n0 n1 n2 z2 z3
  go_wp2
  refine wp_region_grow (by kernel_rfl) (by kernel_rfl) ?_
  repeat (any_goals (first | go_big_quiet_step (fail) | quiet_step (fail)))
  refine wpQuiet_nil ?_
  intro w5 hb
  have HG5 := Lib.hid (HG4.out.next hb)
  clear hb HG4
  clear s0 s1 s2 m0 m1 m2 n0 n1 n2 z0 z1 z2 z3; obtain ⟨⟨⟨s0, s1⟩, s2⟩, ⟨m0, m1, m2⟩, ⟨n0, n1, n2⟩, ⟨z0, z1, z2, z3⟩⟩ := HG5.out.facts; dsimp only at m0 m1 m2 n0 n1 n2 z2 z3
  have hg := join_row HG5.out.bl
  go_wp2_with (first
    | (refine wpList_store_row rfl 29 (.tmp 4) (.tmp 77) rfl (w.heap.size + 1 + 1) zero3 rfl rfl 29 _ hg info29' rfl (sl3_one _ _ _ _ _ _ _ _ _) ?_))
  refine bodyPost_ret (results_ct rfl _ _ (w.heap.size + 1 + 1) 29 zero3 (0, 0) _ rfl (setRow_block _ _ _ _ _ _ hg) Try.underlying29 rfl info29') rfl ?_
  exact join_err w _ pg wd L s R 81 HE.out (by decide) (below_setRow (join_below HG5.out.bl) (by omega) _)


theorem join_leaf_b2 (pg wd : Int) (x : VH) (L : NodeD) (s : ByteArray) (y : VH) (R : NodeD) (w : World) (hL : RdN w x.A0 x.c0 x.A1 x.c1 x.A2 x.c2 L) (hR : RdN w y.A0 y.c0 y.A1 y.c1 y.A2 y.c2 R) (hsm : s.size ≤ 140737488355328)
    (hr : right pg wd = true) (h1 : leafB pg wd L = true) (h2 : leafB pg wd R = true) (k1 : (s.toList == []) = false) (k2 : decide ((s.size : Int) ≤ pg / 16) = false) (hE : joinE pg wd L s R = 81) :
    Calls Try.prog 89 #[vF pg wd, vH x L s y R] w fun e w' => JoinPost pg wd L s R w e w' := by
  obtain ⟨⟨h0', h1'⟩, _, _⟩ := right_spec hr
  have h0 : 0 ≤ pg := by omega
  have HRI := Lib.hid hr
  have HL := Lib.hid hL
  have HRD := Lib.hid hR
  have HB1 := Lib.hid h1
  have HB2 := Lib.hid h2
  have hlp := hL.hp
  have hrp := hR.hp
  have HSM : Hid (s.size ≤ 140737488355328) := Lib.hid hsm
  clear hr h1 h2 hL hR h0'
  have h1 := h1'
  have HE := Lib.hid hE
  clear hE
  go_enter Try.func89, Try.ntmps89
  go_wp2_with (first
    | (go_at_call 61; refine (frame_v pg wd _ _ HRI.out).mono ?_; rintro e w1 ⟨rfl, hb⟩; have hB1 := join_first hb; clear hb))
  refine region_mid (α := Nat × Nat) (fun X a => ((((((a.put (some 15) (.pointer (some ⟨w.heap.size + 1, 0, none⟩))).put (some 16) (vN x.A0 x.c0 x.A1 x.c1 x.A2 x.c2 L)).put (some 17) (.pointer (some ⟨w.heap.size + 1, 4, none⟩))).put (some 18) (vN y.A0 y.c0 y.A1 y.c1 y.A2 y.c2 R)).put (some 6) (.pointer (some ⟨X.1, 0, none⟩))).put (some 7) (.pointer (some ⟨X.2, 0, none⟩)))) (fun X W => JoinG w pg wd x L s y R X W) ?region ?rest
  case region =>
    have HF := Lib.hid (fun W (h : Below (w.heap.size + 1 + 1 + 1) (joinW w pg wd x L s y R) W) => join_boxes h)
    refine wp_region_tree (S := Below (w.heap.size + 1 + 1 + 1) (joinW w pg wd x L s y R)) (.take 0 (.take 1 (.take 2 (.take 3 (.two 4 5 (.run 5 (.run 6 (.run 7 (.done)))) (.run 4 (.run 6 (.run 7 (.done)))))))))
      (by kernel_rfl) (by kernel_rfl) (by kernel_rfl) (by rintro c a d v W ⟨X, h, _⟩; cases h) hB1.drew ?_
    repeat (apply tree_take; (exact rfl); rfl; (intro W hW; obtain ⟨⟨q0, q1⟩, q2, q3, q4, q5, q6, q7, q8⟩ := HF.out W hW; go_simp; (try with_reducible rfl)); simp only [Act.put, List.setIfInBounds_toArray, List.set_cons_zero, List.set_cons_succ])
    have hlo : w.heap.size + 1 + 1 + 1 ≤ w1.drew.heap.size := join_size hB1.drew
    have h1 := hB1.drew.alloc hlo (.cells zero3 29)
    have h2 := h1.alloc (by rw [World.size_alloc]; omega) (.cells zero3 29)
    have r1 : ((w1.drew.alloc (.cells zero3 29)).alloc (.cells zero3 29)).heap[w1.drew.heap.size]? = some (.cells zero3 29 (0, 0)) := (Below.heap_alloc _ _ _ (by simp)).trans (heap_alloc_new _ _)
    have r2 : ((w1.drew.alloc (.cells zero3 29)).alloc (.cells zero3 29)).heap[w1.drew.heap.size + 1]? = some (.cells zero3 29 (0, 0)) := alloc2_at _ _ _
    refine tree_two ?_ ?_
    ·
      apply tree_run; (exact rfl); rfl; intro K hK; go_simp
      refine hK.out _ _ h1 (fun _ => ?_)
      clear hK K
      try simp only [Act.put, List.setIfInBounds_toArray, List.set_cons_zero, List.set_cons_succ]
      apply tree_run; (exact rfl); rfl; intro K hK; go_simp
      refine hK.out _ _ h2 (fun _ => ?_)
      clear hK K
      try simp only [Act.put, List.setIfInBounds_toArray, List.set_cons_zero, List.set_cons_succ]
      have hG := joinG_store (w := w) (pg := pg) (wd := wd) (x := x) (y := y) (L := L) (R := R) (s := s) h2 r1 r2 (by omega) (by omega) (by omega)
      apply tree_run; (exact rfl); rfl; intro K hK
      refine wp_store_row 29 (.tmp 6) (.tmp 16) rfl (w1.drew.heap.size) (node3 x L) rfl rfl 29 zero3 r1 info29' rfl (sl3_one _ _ _ _ _ _ _ _ _) ?_
      refine hK.out _ _ (below_setRow h2 (by omega) _) (fun _ => ?_)
      clear hK K
      try simp only [Act.put]
      apply tree_run; (exact rfl); rfl; intro K hK
      refine wp_store_row 29 (.tmp 7) (.tmp 18) rfl (w1.drew.heap.size + 1) (node3 y R) rfl rfl 29 zero3 ((setRow_other _ _ _ _ (by omega)).trans r2) info29' rfl (sl3_one _ _ _ _ _ _ _ _ _) ?_
      refine hK.out _ _ hG.bl (fun _ => ?_)
      clear hK K
      try simp only [Act.put]
      exact tree_done ⟨(w1.drew.heap.size, w1.drew.heap.size + 1), rfl, rfl, hG⟩
    ·
      apply tree_run; (exact rfl); rfl; intro K hK; go_simp
      refine hK.out _ _ h1 (fun _ => ?_)
      clear hK K
      try simp only [Act.put, List.setIfInBounds_toArray, List.set_cons_zero, List.set_cons_succ]
      apply tree_run; (exact rfl); rfl; intro K hK; go_simp
      refine hK.out _ _ h2 (fun _ => ?_)
      clear hK K
      try simp only [Act.put, List.setIfInBounds_toArray, List.set_cons_zero, List.set_cons_succ]
      have hG := joinG_store (w := w) (pg := pg) (wd := wd) (x := x) (y := y) (L := L) (R := R) (s := s) h2 r2 r1 (by omega) (by omega) (by omega)
      apply tree_run; (exact rfl); rfl; intro K hK
      refine wp_store_row 29 (.tmp 6) (.tmp 16) rfl (w1.drew.heap.size + 1) (node3 x L) rfl rfl 29 zero3 r2 info29' rfl (sl3_one _ _ _ _ _ _ _ _ _) ?_
      refine hK.out _ _ (below_setRow h2 (by omega) _) (fun _ => ?_)
      clear hK K
      try simp only [Act.put]
      apply tree_run; (exact rfl); rfl; intro K hK
      refine wp_store_row 29 (.tmp 7) (.tmp 18) rfl (w1.drew.heap.size) (node3 y R) rfl rfl 29 zero3 ((setRow_other _ _ _ _ (by omega)).trans r1) info29' rfl (sl3_one _ _ _ _ _ _ _ _ _) ?_
      refine hK.out _ _ hG.bl (fun _ => ?_)
      clear hK K
      try simp only [Act.put]
      exact tree_done ⟨(w1.drew.heap.size + 1, w1.drew.heap.size), rfl, rfl, hG⟩
  case rest =>
  rintro ⟨g1, g2⟩ W hG
  have HG0 := Lib.hid hG
  have HLR := Lib.hid (fun W (h : JoinG w pg wd x L s y R (g1, g2) W) => HL.out.below (join_below h.bl))
  have HRR := Lib.hid (fun W (h : JoinG w pg wd x L s y R (g1, g2) W) => HRD.out.below (join_below h.bl))
  clear hG
  obtain ⟨⟨⟨s0, s1⟩, s2⟩, ⟨m0, m1, m2⟩, ⟨n0, n1, n2⟩, ⟨z0, z1, z2, z3⟩⟩ := HG0.out.facts
  simp only [Act.put, List.setIfInBounds_toArray, List.set_cons_zero, List.set_cons_succ]
  dsimp only at m0 m1 m2 n0 n1 n2 z2 z3
  go_wp2_with (first
    | (go_at_call 62; skip; (refine (leaf_v pg wd _ _ _ _ _ _ L _ (HLR.out _ HG0.out) _ HB1.out).mono ?_; rintro e w2 ⟨rfl, hb2⟩; have HG1 := Lib.hid (HG0.out.next hb2); clear hb2 HG0 HB1; clear s0 s1 s2 m0 m1 m2 n0 n1 n2 z0 z1 z2 z3; obtain ⟨⟨⟨s0, s1⟩, s2⟩, ⟨m0, m1, m2⟩, ⟨n0, n1, n2⟩, ⟨z0, z1, z2, z3⟩⟩ := HG1.out.facts; dsimp only at m0 m1 m2 n0 n1 n2 z2 z3))
    | (go_at_call 62; go_must (refine (leaf_v pg wd _ _ _ _ _ _ R _ (HRR.out _ HG1.out) _ HB2.out).mono ?_; rintro e w3 ⟨rfl, hb3⟩; have HG2 := Lib.hid (HG1.out.next hb3); clear hb3 HG1 HB2; clear s0 s1 s2 m0 m1 m2 n0 n1 n2 z0 z1 z2 z3; obtain ⟨⟨⟨s0, s1⟩, s2⟩, ⟨m0, m1, m2⟩, ⟨n0, n1, n2⟩, ⟨z0, z1, z2, z3⟩⟩ := HG2.out.facts; dsimp only at m0 m1 m2 n0 n1 n2 z2 z3)))
  refine wp_region_grow (by kernel_rfl) (by kernel_rfl) ?_
  repeat (any_goals (first | go_big_quiet_step ((go_at_call 63; exact quiet_below (maxKey_c pg wd _ h0 h1))) | quiet_step ((go_at_call 63; exact quiet_below (maxKey_c pg wd _ h0 h1)))))
  refine wpQuiet_nil ?_
  intro w3 hb
  have HG3 := Lib.hid (HG2.out.next hb)
  clear hb HG2
  clear s0 s1 s2 m0 m1 m2 n0 n1 n2 z0 z1 z2 z3; obtain ⟨⟨⟨s0, s1⟩, s2⟩, ⟨m0, m1, m2⟩, ⟨n0, n1, n2⟩, ⟨z0, z1, z2, z3⟩⟩ := HG3.out.facts; dsimp only at m0 m1 m2 n0 n1 n2 z2 z3
  go_wp2
  refine wp_region_grow (by kernel_rfl) (by kernel_rfl) ?_
  repeat (any_goals (first | go_big_quiet_step (fail) | quiet_step (fail)))
  refine wpQuiet_nil ?_
  intro w4 hb
  have HG4 := Lib.hid (HG3.out.next hb)
  clear hb HG3
  clear s0 s1 s2 m0 m1 m2 n0 n1 n2 z0 z1 z2 z3; obtain ⟨⟨⟨s0, s1⟩, s2⟩, ⟨m0, m1, m2⟩, ⟨n0, n1, n2⟩, ⟨z0, z1, z2, z3⟩⟩ := HG4.out.facts; dsimp only at m0 m1 m2 n0 n1 n2 z2 z3
  go_wp2
  refine wp_region_grow (by kernel_rfl) (by kernel_rfl) ?_
  repeat (any_goals (first | go_big_quiet_step (fail) | quiet_step (fail)))
  refine wpQuiet_nil ?_
  intro w5 hb
  have HG5 := Lib.hid (HG4.out.next hb)
  clear hb HG4
  clear s0 s1 s2 m0 m1 m2 n0 n1 n2 z0 z1 z2 z3; obtain ⟨⟨⟨s0, s1⟩, s2⟩, ⟨m0, m1, m2⟩, ⟨n0, n1, n2⟩, ⟨z0, z1, z2, z3⟩⟩ := HG5.out.facts; dsimp only at m0 m1 m2 n0 n1 n2 z2 z3
  have hg := join_row HG5.out.bl
  go_wp2_with (first
    | (refine wpList_store_row rfl 29 (.tmp 4) (.tmp 77) rfl (w.heap.size + 1 + 1) zero3 rfl rfl 29 _ hg info29' rfl (sl3_one _ _ _ _ _ _ _ _ _) ?_))
  refine bodyPost_ret (results_ct rfl _ _ (w.heap.size + 1 + 1) 29 zero3 (0, 0) _ rfl (setRow_block _ _ _ _ _ _ hg) Try.underlying29 rfl info29') rfl ?_
  exact join_err w _ pg wd L s R 81 HE.out (by decide) (below_setRow (join_below HG5.out.bl) (by omega) _)


theorem join_leaf_b3 (pg wd : Int) (x : VH) (L : NodeD) (s : ByteArray) (y : VH) (R : NodeD) (w : World) (hL : RdN w x.A0 x.c0 x.A1 x.c1 x.A2 x.c2 L) (hR : RdN w y.A0 y.c0 y.A1 y.c1 y.A2 y.c2 R) (hsm : s.size ≤ 140737488355328)
    (hr : right pg wd = true) (h1 : leafB pg wd L = true) (h2 : leafB pg wd R = true) (k1 : (s.toList == []) = false) (k2 : decide ((s.size : Int) ≤ pg / 16) = true) (m : Nat) (hm : L.pairs.length = m + 1) (lk : ByteArray) (hlk : keyAt L.pairs m = lk) (ho : Op.bytesLess lk.toList s.toList = false) (hE : joinE pg wd L s R = 81) :
    Calls Try.prog 89 #[vF pg wd, vH x L s y R] w fun e w' => JoinPost pg wd L s R w e w' := by
  obtain ⟨⟨h0', h1'⟩, _, _⟩ := right_spec hr
  have h0 : 0 ≤ pg := by omega
  have HRI := Lib.hid hr
  have HL := Lib.hid hL
  have HRD := Lib.hid hR
  have HB1 := Lib.hid h1
  have HB2 := Lib.hid h2
  have hlp := hL.hp
  have hrp := hR.hp
  have HSM : Hid (s.size ≤ 140737488355328) := Lib.hid hsm
  clear hr h1 h2 hL hR h0'
  have h1 := h1'
  have HE := Lib.hid hE
  clear hE
  have HM := Lib.hid hm
  have HLK := Lib.hid hlk
  clear hm hlk
  go_enter Try.func89, Try.ntmps89
  go_wp2_with (first
    | (go_at_call 61; refine (frame_v pg wd _ _ HRI.out).mono ?_; rintro e w1 ⟨rfl, hb⟩; have hB1 := join_first hb; clear hb))
  refine region_mid (α := Nat × Nat) (fun X a => ((((((a.put (some 15) (.pointer (some ⟨w.heap.size + 1, 0, none⟩))).put (some 16) (vN x.A0 x.c0 x.A1 x.c1 x.A2 x.c2 L)).put (some 17) (.pointer (some ⟨w.heap.size + 1, 4, none⟩))).put (some 18) (vN y.A0 y.c0 y.A1 y.c1 y.A2 y.c2 R)).put (some 6) (.pointer (some ⟨X.1, 0, none⟩))).put (some 7) (.pointer (some ⟨X.2, 0, none⟩)))) (fun X W => JoinG w pg wd x L s y R X W) ?region ?rest
  case region =>
    have HF := Lib.hid (fun W (h : Below (w.heap.size + 1 + 1 + 1) (joinW w pg wd x L s y R) W) => join_boxes h)
    refine wp_region_tree (S := Below (w.heap.size + 1 + 1 + 1) (joinW w pg wd x L s y R)) (.take 0 (.take 1 (.take 2 (.take 3 (.two 4 5 (.run 5 (.run 6 (.run 7 (.done)))) (.run 4 (.run 6 (.run 7 (.done)))))))))
      (by kernel_rfl) (by kernel_rfl) (by kernel_rfl) (by rintro c a d v W ⟨X, h, _⟩; cases h) hB1.drew ?_
    repeat (apply tree_take; (exact rfl); rfl; (intro W hW; obtain ⟨⟨q0, q1⟩, q2, q3, q4, q5, q6, q7, q8⟩ := HF.out W hW; go_simp; (try with_reducible rfl)); simp only [Act.put, List.setIfInBounds_toArray, List.set_cons_zero, List.set_cons_succ])
    have hlo : w.heap.size + 1 + 1 + 1 ≤ w1.drew.heap.size := join_size hB1.drew
    have h1 := hB1.drew.alloc hlo (.cells zero3 29)
    have h2 := h1.alloc (by rw [World.size_alloc]; omega) (.cells zero3 29)
    have r1 : ((w1.drew.alloc (.cells zero3 29)).alloc (.cells zero3 29)).heap[w1.drew.heap.size]? = some (.cells zero3 29 (0, 0)) := (Below.heap_alloc _ _ _ (by simp)).trans (heap_alloc_new _ _)
    have r2 : ((w1.drew.alloc (.cells zero3 29)).alloc (.cells zero3 29)).heap[w1.drew.heap.size + 1]? = some (.cells zero3 29 (0, 0)) := alloc2_at _ _ _
    refine tree_two ?_ ?_
    ·
      apply tree_run; (exact rfl); rfl; intro K hK; go_simp
      refine hK.out _ _ h1 (fun _ => ?_)
      clear hK K
      try simp only [Act.put, List.setIfInBounds_toArray, List.set_cons_zero, List.set_cons_succ]
      apply tree_run; (exact rfl); rfl; intro K hK; go_simp
      refine hK.out _ _ h2 (fun _ => ?_)
      clear hK K
      try simp only [Act.put, List.setIfInBounds_toArray, List.set_cons_zero, List.set_cons_succ]
      have hG := joinG_store (w := w) (pg := pg) (wd := wd) (x := x) (y := y) (L := L) (R := R) (s := s) h2 r1 r2 (by omega) (by omega) (by omega)
      apply tree_run; (exact rfl); rfl; intro K hK
      refine wp_store_row 29 (.tmp 6) (.tmp 16) rfl (w1.drew.heap.size) (node3 x L) rfl rfl 29 zero3 r1 info29' rfl (sl3_one _ _ _ _ _ _ _ _ _) ?_
      refine hK.out _ _ (below_setRow h2 (by omega) _) (fun _ => ?_)
      clear hK K
      try simp only [Act.put]
      apply tree_run; (exact rfl); rfl; intro K hK
      refine wp_store_row 29 (.tmp 7) (.tmp 18) rfl (w1.drew.heap.size + 1) (node3 y R) rfl rfl 29 zero3 ((setRow_other _ _ _ _ (by omega)).trans r2) info29' rfl (sl3_one _ _ _ _ _ _ _ _ _) ?_
      refine hK.out _ _ hG.bl (fun _ => ?_)
      clear hK K
      try simp only [Act.put]
      exact tree_done ⟨(w1.drew.heap.size, w1.drew.heap.size + 1), rfl, rfl, hG⟩
    ·
      apply tree_run; (exact rfl); rfl; intro K hK; go_simp
      refine hK.out _ _ h1 (fun _ => ?_)
      clear hK K
      try simp only [Act.put, List.setIfInBounds_toArray, List.set_cons_zero, List.set_cons_succ]
      apply tree_run; (exact rfl); rfl; intro K hK; go_simp
      refine hK.out _ _ h2 (fun _ => ?_)
      clear hK K
      try simp only [Act.put, List.setIfInBounds_toArray, List.set_cons_zero, List.set_cons_succ]
      have hG := joinG_store (w := w) (pg := pg) (wd := wd) (x := x) (y := y) (L := L) (R := R) (s := s) h2 r2 r1 (by omega) (by omega) (by omega)
      apply tree_run; (exact rfl); rfl; intro K hK
      refine wp_store_row 29 (.tmp 6) (.tmp 16) rfl (w1.drew.heap.size + 1) (node3 x L) rfl rfl 29 zero3 r2 info29' rfl (sl3_one _ _ _ _ _ _ _ _ _) ?_
      refine hK.out _ _ (below_setRow h2 (by omega) _) (fun _ => ?_)
      clear hK K
      try simp only [Act.put]
      apply tree_run; (exact rfl); rfl; intro K hK
      refine wp_store_row 29 (.tmp 7) (.tmp 18) rfl (w1.drew.heap.size) (node3 y R) rfl rfl 29 zero3 ((setRow_other _ _ _ _ (by omega)).trans r1) info29' rfl (sl3_one _ _ _ _ _ _ _ _ _) ?_
      refine hK.out _ _ hG.bl (fun _ => ?_)
      clear hK K
      try simp only [Act.put]
      exact tree_done ⟨(w1.drew.heap.size + 1, w1.drew.heap.size), rfl, rfl, hG⟩
  case rest =>
  rintro ⟨g1, g2⟩ W hG
  have HG0 := Lib.hid hG
  have HLR := Lib.hid (fun W (h : JoinG w pg wd x L s y R (g1, g2) W) => HL.out.below (join_below h.bl))
  have HRR := Lib.hid (fun W (h : JoinG w pg wd x L s y R (g1, g2) W) => HRD.out.below (join_below h.bl))
  clear hG
  obtain ⟨⟨⟨s0, s1⟩, s2⟩, ⟨m0, m1, m2⟩, ⟨n0, n1, n2⟩, ⟨z0, z1, z2, z3⟩⟩ := HG0.out.facts
  simp only [Act.put, List.setIfInBounds_toArray, List.set_cons_zero, List.set_cons_succ]
  dsimp only at m0 m1 m2 n0 n1 n2 z2 z3
  go_wp2_with (first
    | (go_at_call 62; skip; (refine (leaf_v pg wd _ _ _ _ _ _ L _ (HLR.out _ HG0.out) _ HB1.out).mono ?_; rintro e w2 ⟨rfl, hb2⟩; have HG1 := Lib.hid (HG0.out.next hb2); clear hb2 HG0 HB1; clear s0 s1 s2 m0 m1 m2 n0 n1 n2 z0 z1 z2 z3; obtain ⟨⟨⟨s0, s1⟩, s2⟩, ⟨m0, m1, m2⟩, ⟨n0, n1, n2⟩, ⟨z0, z1, z2, z3⟩⟩ := HG1.out.facts; dsimp only at m0 m1 m2 n0 n1 n2 z2 z3))
    | (go_at_call 62; go_must (refine (leaf_v pg wd _ _ _ _ _ _ R _ (HRR.out _ HG1.out) _ HB2.out).mono ?_; rintro e w3 ⟨rfl, hb3⟩; have HG2 := Lib.hid (HG1.out.next hb3); clear hb3 HG1 HB2; clear s0 s1 s2 m0 m1 m2 n0 n1 n2 z0 z1 z2 z3; obtain ⟨⟨⟨s0, s1⟩, s2⟩, ⟨m0, m1, m2⟩, ⟨n0, n1, n2⟩, ⟨z0, z1, z2, z3⟩⟩ := HG2.out.facts; dsimp only at m0 m1 m2 n0 n1 n2 z2 z3)))
  refine wp_region_grow (by kernel_rfl) (by kernel_rfl) ?_
  repeat (any_goals (first | go_big_quiet_step ((go_at_call 63; exact quiet_below (maxKey_c pg wd _ h0 h1))) | quiet_step ((go_at_call 63; exact quiet_below (maxKey_c pg wd _ h0 h1)))))
  refine wpQuiet_nil ?_
  intro w3 hb
  have HG3 := Lib.hid (HG2.out.next hb)
  clear hb HG2
  clear s0 s1 s2 m0 m1 m2 n0 n1 n2 z0 z1 z2 z3; obtain ⟨⟨⟨s0, s1⟩, s2⟩, ⟨m0, m1, m2⟩, ⟨n0, n1, n2⟩, ⟨z0, z1, z2, z3⟩⟩ := HG3.out.facts; dsimp only at m0 m1 m2 n0 n1 n2 z2 z3
  go_wp2
  have hm := HM.out
  obtain ⟨ab, ao, ax, ak, aj⟩ := pairs_at (HLR.out _ HG3.out).pairs (show m < L.pairs.length by omega)
  clear aj
  rw [← keyAt_get (show m < L.pairs.length by omega), HLK.out] at ak
  have hm0 : ((m : Int) + 1 == 0) = false := by rw [beq_eq_false_iff_ne]; omega
  have hmb : m ≤ 140737488355328 := by omega
  have ab3 : ab < w3.heap.size := World.block_lt_of_cell? _ _ ak
  rw [ax, hm] at m0; clear hm
  refine wp_region_grow (by kernel_rfl) (by kernel_rfl) ?_
  repeat (any_goals (first | go_big_quiet_step (fail) | quiet_step (fail)))
  refine wpQuiet_nil ?_
  intro w4 hb
  have HG4 := Lib.hid (HG3.out.next hb)
  clear hb HG3
  clear s0 s1 s2 m0 m1 m2 n0 n1 n2 z0 z1 z2 z3; obtain ⟨⟨⟨s0, s1⟩, s2⟩, ⟨m0, m1, m2⟩, ⟨n0, n1, n2⟩, ⟨z0, z1, z2, z3⟩⟩ := HG4.out.facts; dsimp only at m0 m1 m2 n0 n1 n2 z2 z3
  go_wp2
  clear ak ab3
  refine wp_region_grow (by kernel_rfl) (by kernel_rfl) ?_
  repeat (any_goals (first | go_big_quiet_step (fail) | quiet_step (fail)))
  refine wpQuiet_nil ?_
  intro w5 hb
  have HG5 := Lib.hid (HG4.out.next hb)
  clear hb HG4
  clear s0 s1 s2 m0 m1 m2 n0 n1 n2 z0 z1 z2 z3; obtain ⟨⟨⟨s0, s1⟩, s2⟩, ⟨m0, m1, m2⟩, ⟨n0, n1, n2⟩, ⟨z0, z1, z2, z3⟩⟩ := HG5.out.facts; dsimp only at m0 m1 m2 n0 n1 n2 z2 z3
  have hg := join_row HG5.out.bl
  go_wp2_with (first
    | (refine wpList_store_row rfl 29 (.tmp 4) (.tmp 77) rfl (w.heap.size + 1 + 1) zero3 rfl rfl 29 _ hg info29' rfl (sl3_one _ _ _ _ _ _ _ _ _) ?_))
  refine bodyPost_ret (results_ct rfl _ _ (w.heap.size + 1 + 1) 29 zero3 (0, 0) _ rfl (setRow_block _ _ _ _ _ _ hg) Try.underlying29 rfl info29') rfl ?_
  exact join_err w _ pg wd L s R 81 HE.out (by decide) (below_setRow (join_below HG5.out.bl) (by omega) _)


theorem join_leaf_b4 (pg wd : Int) (x : VH) (L : NodeD) (s : ByteArray) (y : VH) (R : NodeD) (w : World) (hL : RdN w x.A0 x.c0 x.A1 x.c1 x.A2 x.c2 L) (hR : RdN w y.A0 y.c0 y.A1 y.c1 y.A2 y.c2 R) (hsm : s.size ≤ 140737488355328)
    (hr : right pg wd = true) (h1 : leafB pg wd L = true) (h2 : leafB pg wd R = true) (k1 : (s.toList == []) = false) (k2 : decide ((s.size : Int) ≤ pg / 16) = true) (hm : L.pairs.length = 0) (n : Nat) (hn : R.pairs.length = n + 1) (rk : ByteArray) (hrk : keyAt R.pairs 0 = rk) (hq : Op.bytesLess rk.toList s.toList = true) (hE : joinE pg wd L s R = 81) :
    Calls Try.prog 89 #[vF pg wd, vH x L s y R] w fun e w' => JoinPost pg wd L s R w e w' := by
  obtain ⟨⟨h0', h1'⟩, _, _⟩ := right_spec hr
  have h0 : 0 ≤ pg := by omega
  have HRI := Lib.hid hr
  have HL := Lib.hid hL
  have HRD := Lib.hid hR
  have HB1 := Lib.hid h1
  have HB2 := Lib.hid h2
  have hlp := hL.hp
  have hrp := hR.hp
  have HSM : Hid (s.size ≤ 140737488355328) := Lib.hid hsm
  clear hr h1 h2 hL hR h0'
  have h1 := h1'
  have HE := Lib.hid hE
  clear hE
  have HM := Lib.hid hm
  clear hm
  have HNN := Lib.hid hn
  have HRK := Lib.hid hrk
  clear hn hrk
  go_enter Try.func89, Try.ntmps89
  go_wp2_with (first
    | (go_at_call 61; refine (frame_v pg wd _ _ HRI.out).mono ?_; rintro e w1 ⟨rfl, hb⟩; have hB1 := join_first hb; clear hb))
  refine region_mid (α := Nat × Nat) (fun X a => ((((((a.put (some 15) (.pointer (some ⟨w.heap.size + 1, 0, none⟩))).put (some 16) (vN x.A0 x.c0 x.A1 x.c1 x.A2 x.c2 L)).put (some 17) (.pointer (some ⟨w.heap.size + 1, 4, none⟩))).put (some 18) (vN y.A0 y.c0 y.A1 y.c1 y.A2 y.c2 R)).put (some 6) (.pointer (some ⟨X.1, 0, none⟩))).put (some 7) (.pointer (some ⟨X.2, 0, none⟩)))) (fun X W => JoinG w pg wd x L s y R X W) ?region ?rest
  case region =>
    have HF := Lib.hid (fun W (h : Below (w.heap.size + 1 + 1 + 1) (joinW w pg wd x L s y R) W) => join_boxes h)
    refine wp_region_tree (S := Below (w.heap.size + 1 + 1 + 1) (joinW w pg wd x L s y R)) (.take 0 (.take 1 (.take 2 (.take 3 (.two 4 5 (.run 5 (.run 6 (.run 7 (.done)))) (.run 4 (.run 6 (.run 7 (.done)))))))))
      (by kernel_rfl) (by kernel_rfl) (by kernel_rfl) (by rintro c a d v W ⟨X, h, _⟩; cases h) hB1.drew ?_
    repeat (apply tree_take; (exact rfl); rfl; (intro W hW; obtain ⟨⟨q0, q1⟩, q2, q3, q4, q5, q6, q7, q8⟩ := HF.out W hW; go_simp; (try with_reducible rfl)); simp only [Act.put, List.setIfInBounds_toArray, List.set_cons_zero, List.set_cons_succ])
    have hlo : w.heap.size + 1 + 1 + 1 ≤ w1.drew.heap.size := join_size hB1.drew
    have h1 := hB1.drew.alloc hlo (.cells zero3 29)
    have h2 := h1.alloc (by rw [World.size_alloc]; omega) (.cells zero3 29)
    have r1 : ((w1.drew.alloc (.cells zero3 29)).alloc (.cells zero3 29)).heap[w1.drew.heap.size]? = some (.cells zero3 29 (0, 0)) := (Below.heap_alloc _ _ _ (by simp)).trans (heap_alloc_new _ _)
    have r2 : ((w1.drew.alloc (.cells zero3 29)).alloc (.cells zero3 29)).heap[w1.drew.heap.size + 1]? = some (.cells zero3 29 (0, 0)) := alloc2_at _ _ _
    refine tree_two ?_ ?_
    ·
      apply tree_run; (exact rfl); rfl; intro K hK; go_simp
      refine hK.out _ _ h1 (fun _ => ?_)
      clear hK K
      try simp only [Act.put, List.setIfInBounds_toArray, List.set_cons_zero, List.set_cons_succ]
      apply tree_run; (exact rfl); rfl; intro K hK; go_simp
      refine hK.out _ _ h2 (fun _ => ?_)
      clear hK K
      try simp only [Act.put, List.setIfInBounds_toArray, List.set_cons_zero, List.set_cons_succ]
      have hG := joinG_store (w := w) (pg := pg) (wd := wd) (x := x) (y := y) (L := L) (R := R) (s := s) h2 r1 r2 (by omega) (by omega) (by omega)
      apply tree_run; (exact rfl); rfl; intro K hK
      refine wp_store_row 29 (.tmp 6) (.tmp 16) rfl (w1.drew.heap.size) (node3 x L) rfl rfl 29 zero3 r1 info29' rfl (sl3_one _ _ _ _ _ _ _ _ _) ?_
      refine hK.out _ _ (below_setRow h2 (by omega) _) (fun _ => ?_)
      clear hK K
      try simp only [Act.put]
      apply tree_run; (exact rfl); rfl; intro K hK
      refine wp_store_row 29 (.tmp 7) (.tmp 18) rfl (w1.drew.heap.size + 1) (node3 y R) rfl rfl 29 zero3 ((setRow_other _ _ _ _ (by omega)).trans r2) info29' rfl (sl3_one _ _ _ _ _ _ _ _ _) ?_
      refine hK.out _ _ hG.bl (fun _ => ?_)
      clear hK K
      try simp only [Act.put]
      exact tree_done ⟨(w1.drew.heap.size, w1.drew.heap.size + 1), rfl, rfl, hG⟩
    ·
      apply tree_run; (exact rfl); rfl; intro K hK; go_simp
      refine hK.out _ _ h1 (fun _ => ?_)
      clear hK K
      try simp only [Act.put, List.setIfInBounds_toArray, List.set_cons_zero, List.set_cons_succ]
      apply tree_run; (exact rfl); rfl; intro K hK; go_simp
      refine hK.out _ _ h2 (fun _ => ?_)
      clear hK K
      try simp only [Act.put, List.setIfInBounds_toArray, List.set_cons_zero, List.set_cons_succ]
      have hG := joinG_store (w := w) (pg := pg) (wd := wd) (x := x) (y := y) (L := L) (R := R) (s := s) h2 r2 r1 (by omega) (by omega) (by omega)
      apply tree_run; (exact rfl); rfl; intro K hK
      refine wp_store_row 29 (.tmp 6) (.tmp 16) rfl (w1.drew.heap.size + 1) (node3 x L) rfl rfl 29 zero3 r2 info29' rfl (sl3_one _ _ _ _ _ _ _ _ _) ?_
      refine hK.out _ _ (below_setRow h2 (by omega) _) (fun _ => ?_)
      clear hK K
      try simp only [Act.put]
      apply tree_run; (exact rfl); rfl; intro K hK
      refine wp_store_row 29 (.tmp 7) (.tmp 18) rfl (w1.drew.heap.size) (node3 y R) rfl rfl 29 zero3 ((setRow_other _ _ _ _ (by omega)).trans r1) info29' rfl (sl3_one _ _ _ _ _ _ _ _ _) ?_
      refine hK.out _ _ hG.bl (fun _ => ?_)
      clear hK K
      try simp only [Act.put]
      exact tree_done ⟨(w1.drew.heap.size + 1, w1.drew.heap.size), rfl, rfl, hG⟩
  case rest =>
  rintro ⟨g1, g2⟩ W hG
  have HG0 := Lib.hid hG
  have HLR := Lib.hid (fun W (h : JoinG w pg wd x L s y R (g1, g2) W) => HL.out.below (join_below h.bl))
  have HRR := Lib.hid (fun W (h : JoinG w pg wd x L s y R (g1, g2) W) => HRD.out.below (join_below h.bl))
  clear hG
  obtain ⟨⟨⟨s0, s1⟩, s2⟩, ⟨m0, m1, m2⟩, ⟨n0, n1, n2⟩, ⟨z0, z1, z2, z3⟩⟩ := HG0.out.facts
  simp only [Act.put, List.setIfInBounds_toArray, List.set_cons_zero, List.set_cons_succ]
  dsimp only at m0 m1 m2 n0 n1 n2 z2 z3
  go_wp2_with (first
    | (go_at_call 62; skip; (refine (leaf_v pg wd _ _ _ _ _ _ L _ (HLR.out _ HG0.out) _ HB1.out).mono ?_; rintro e w2 ⟨rfl, hb2⟩; have HG1 := Lib.hid (HG0.out.next hb2); clear hb2 HG0 HB1; clear s0 s1 s2 m0 m1 m2 n0 n1 n2 z0 z1 z2 z3; obtain ⟨⟨⟨s0, s1⟩, s2⟩, ⟨m0, m1, m2⟩, ⟨n0, n1, n2⟩, ⟨z0, z1, z2, z3⟩⟩ := HG1.out.facts; dsimp only at m0 m1 m2 n0 n1 n2 z2 z3))
    | (go_at_call 62; go_must (refine (leaf_v pg wd _ _ _ _ _ _ R _ (HRR.out _ HG1.out) _ HB2.out).mono ?_; rintro e w3 ⟨rfl, hb3⟩; have HG2 := Lib.hid (HG1.out.next hb3); clear hb3 HG1 HB2; clear s0 s1 s2 m0 m1 m2 n0 n1 n2 z0 z1 z2 z3; obtain ⟨⟨⟨s0, s1⟩, s2⟩, ⟨m0, m1, m2⟩, ⟨n0, n1, n2⟩, ⟨z0, z1, z2, z3⟩⟩ := HG2.out.facts; dsimp only at m0 m1 m2 n0 n1 n2 z2 z3)))
  refine wp_region_grow (by kernel_rfl) (by kernel_rfl) ?_
  repeat (any_goals (first | go_big_quiet_step ((go_at_call 63; exact quiet_below (maxKey_c pg wd _ h0 h1))) | quiet_step ((go_at_call 63; exact quiet_below (maxKey_c pg wd _ h0 h1)))))
  refine wpQuiet_nil ?_
  intro w3 hb
  have HG3 := Lib.hid (HG2.out.next hb)
  clear hb HG2
  clear s0 s1 s2 m0 m1 m2 n0 n1 n2 z0 z1 z2 z3; obtain ⟨⟨⟨s0, s1⟩, s2⟩, ⟨m0, m1, m2⟩, ⟨n0, n1, n2⟩, ⟨z0, z1, z2, z3⟩⟩ := HG3.out.facts; dsimp only at m0 m1 m2 n0 n1 n2 z2 z3
  go_wp2
  rw [HM.out] at m0
  refine wp_region_grow (by kernel_rfl) (by kernel_rfl) ?_
  repeat (any_goals (first | go_big_quiet_step (fail) | quiet_step (fail)))
  refine wpQuiet_nil ?_
  intro w4 hb
  have HG4 := Lib.hid (HG3.out.next hb)
  clear hb HG3
  clear s0 s1 s2 m0 m1 m2 n0 n1 n2 z0 z1 z2 z3; obtain ⟨⟨⟨s0, s1⟩, s2⟩, ⟨m0, m1, m2⟩, ⟨n0, n1, n2⟩, ⟨z0, z1, z2, z3⟩⟩ := HG4.out.facts; dsimp only at m0 m1 m2 n0 n1 n2 z2 z3
  go_wp2
  have hn := HNN.out
  obtain ⟨bb, bo, bx, bk, bj⟩ := pairs_at (HRR.out _ HG4.out).pairs (show 0 < R.pairs.length by omega)
  clear bj
  rw [← keyAt_get (show 0 < R.pairs.length by omega), HRK.out] at bk
  have bb4 : bb < w4.heap.size := World.block_lt_of_cell? _ _ bk
  simp only [Nat.zero_mul, Nat.add_zero] at bk
  rw [bx, hn] at n0; clear hn
  refine wp_region_grow (by kernel_rfl) (by kernel_rfl) ?_
  repeat (any_goals (first | go_big_quiet_step (fail) | quiet_step (fail)))
  refine wpQuiet_nil ?_
  intro w5 hb
  have HG5 := Lib.hid (HG4.out.next hb)
  clear hb HG4
  clear s0 s1 s2 m0 m1 m2 n0 n1 n2 z0 z1 z2 z3; obtain ⟨⟨⟨s0, s1⟩, s2⟩, ⟨m0, m1, m2⟩, ⟨n0, n1, n2⟩, ⟨z0, z1, z2, z3⟩⟩ := HG5.out.facts; dsimp only at m0 m1 m2 n0 n1 n2 z2 z3
  clear bk bb4
  have hg := join_row HG5.out.bl
  go_wp2_with (first
    | (refine wpList_store_row rfl 29 (.tmp 4) (.tmp 77) rfl (w.heap.size + 1 + 1) zero3 rfl rfl 29 _ hg info29' rfl (sl3_one _ _ _ _ _ _ _ _ _) ?_))
  refine bodyPost_ret (results_ct rfl _ _ (w.heap.size + 1 + 1) 29 zero3 (0, 0) _ rfl (setRow_block _ _ _ _ _ _ hg) Try.underlying29 rfl info29') rfl ?_
  exact join_err w _ pg wd L s R 81 HE.out (by decide) (below_setRow (join_below HG5.out.bl) (by omega) _)


theorem join_leaf_b5 (pg wd : Int) (x : VH) (L : NodeD) (s : ByteArray) (y : VH) (R : NodeD) (w : World) (hL : RdN w x.A0 x.c0 x.A1 x.c1 x.A2 x.c2 L) (hR : RdN w y.A0 y.c0 y.A1 y.c1 y.A2 y.c2 R) (hsm : s.size ≤ 140737488355328)
    (hr : right pg wd = true) (h1 : leafB pg wd L = true) (h2 : leafB pg wd R = true) (k1 : (s.toList == []) = false) (k2 : decide ((s.size : Int) ≤ pg / 16) = true) (m : Nat) (hm : L.pairs.length = m + 1) (lk : ByteArray) (hlk : keyAt L.pairs m = lk) (ho : Op.bytesLess lk.toList s.toList = true) (n : Nat) (hn : R.pairs.length = n + 1) (rk : ByteArray) (hrk : keyAt R.pairs 0 = rk) (hq : Op.bytesLess rk.toList s.toList = true) (hE : joinE pg wd L s R = 81) :
    Calls Try.prog 89 #[vF pg wd, vH x L s y R] w fun e w' => JoinPost pg wd L s R w e w' := by
  obtain ⟨⟨h0', h1'⟩, _, _⟩ := right_spec hr
  have h0 : 0 ≤ pg := by omega
  have HRI := Lib.hid hr
  have HL := Lib.hid hL
  have HRD := Lib.hid hR
  have HB1 := Lib.hid h1
  have HB2 := Lib.hid h2
  have hlp := hL.hp
  have hrp := hR.hp
  have HSM : Hid (s.size ≤ 140737488355328) := Lib.hid hsm
  clear hr h1 h2 hL hR h0'
  have h1 := h1'
  have HE := Lib.hid hE
  clear hE
  have HM := Lib.hid hm
  have HLK := Lib.hid hlk
  clear hm hlk
  have HNN := Lib.hid hn
  have HRK := Lib.hid hrk
  clear hn hrk
  go_enter Try.func89, Try.ntmps89
  go_wp2_with (first
    | (go_at_call 61; refine (frame_v pg wd _ _ HRI.out).mono ?_; rintro e w1 ⟨rfl, hb⟩; have hB1 := join_first hb; clear hb))
  refine region_mid (α := Nat × Nat) (fun X a => ((((((a.put (some 15) (.pointer (some ⟨w.heap.size + 1, 0, none⟩))).put (some 16) (vN x.A0 x.c0 x.A1 x.c1 x.A2 x.c2 L)).put (some 17) (.pointer (some ⟨w.heap.size + 1, 4, none⟩))).put (some 18) (vN y.A0 y.c0 y.A1 y.c1 y.A2 y.c2 R)).put (some 6) (.pointer (some ⟨X.1, 0, none⟩))).put (some 7) (.pointer (some ⟨X.2, 0, none⟩)))) (fun X W => JoinG w pg wd x L s y R X W) ?region ?rest
  case region =>
    have HF := Lib.hid (fun W (h : Below (w.heap.size + 1 + 1 + 1) (joinW w pg wd x L s y R) W) => join_boxes h)
    refine wp_region_tree (S := Below (w.heap.size + 1 + 1 + 1) (joinW w pg wd x L s y R)) (.take 0 (.take 1 (.take 2 (.take 3 (.two 4 5 (.run 5 (.run 6 (.run 7 (.done)))) (.run 4 (.run 6 (.run 7 (.done)))))))))
      (by kernel_rfl) (by kernel_rfl) (by kernel_rfl) (by rintro c a d v W ⟨X, h, _⟩; cases h) hB1.drew ?_
    repeat (apply tree_take; (exact rfl); rfl; (intro W hW; obtain ⟨⟨q0, q1⟩, q2, q3, q4, q5, q6, q7, q8⟩ := HF.out W hW; go_simp; (try with_reducible rfl)); simp only [Act.put, List.setIfInBounds_toArray, List.set_cons_zero, List.set_cons_succ])
    have hlo : w.heap.size + 1 + 1 + 1 ≤ w1.drew.heap.size := join_size hB1.drew
    have h1 := hB1.drew.alloc hlo (.cells zero3 29)
    have h2 := h1.alloc (by rw [World.size_alloc]; omega) (.cells zero3 29)
    have r1 : ((w1.drew.alloc (.cells zero3 29)).alloc (.cells zero3 29)).heap[w1.drew.heap.size]? = some (.cells zero3 29 (0, 0)) := (Below.heap_alloc _ _ _ (by simp)).trans (heap_alloc_new _ _)
    have r2 : ((w1.drew.alloc (.cells zero3 29)).alloc (.cells zero3 29)).heap[w1.drew.heap.size + 1]? = some (.cells zero3 29 (0, 0)) := alloc2_at _ _ _
    refine tree_two ?_ ?_
    ·
      apply tree_run; (exact rfl); rfl; intro K hK; go_simp
      refine hK.out _ _ h1 (fun _ => ?_)
      clear hK K
      try simp only [Act.put, List.setIfInBounds_toArray, List.set_cons_zero, List.set_cons_succ]
      apply tree_run; (exact rfl); rfl; intro K hK; go_simp
      refine hK.out _ _ h2 (fun _ => ?_)
      clear hK K
      try simp only [Act.put, List.setIfInBounds_toArray, List.set_cons_zero, List.set_cons_succ]
      have hG := joinG_store (w := w) (pg := pg) (wd := wd) (x := x) (y := y) (L := L) (R := R) (s := s) h2 r1 r2 (by omega) (by omega) (by omega)
      apply tree_run; (exact rfl); rfl; intro K hK
      refine wp_store_row 29 (.tmp 6) (.tmp 16) rfl (w1.drew.heap.size) (node3 x L) rfl rfl 29 zero3 r1 info29' rfl (sl3_one _ _ _ _ _ _ _ _ _) ?_
      refine hK.out _ _ (below_setRow h2 (by omega) _) (fun _ => ?_)
      clear hK K
      try simp only [Act.put]
      apply tree_run; (exact rfl); rfl; intro K hK
      refine wp_store_row 29 (.tmp 7) (.tmp 18) rfl (w1.drew.heap.size + 1) (node3 y R) rfl rfl 29 zero3 ((setRow_other _ _ _ _ (by omega)).trans r2) info29' rfl (sl3_one _ _ _ _ _ _ _ _ _) ?_
      refine hK.out _ _ hG.bl (fun _ => ?_)
      clear hK K
      try simp only [Act.put]
      exact tree_done ⟨(w1.drew.heap.size, w1.drew.heap.size + 1), rfl, rfl, hG⟩
    ·
      apply tree_run; (exact rfl); rfl; intro K hK; go_simp
      refine hK.out _ _ h1 (fun _ => ?_)
      clear hK K
      try simp only [Act.put, List.setIfInBounds_toArray, List.set_cons_zero, List.set_cons_succ]
      apply tree_run; (exact rfl); rfl; intro K hK; go_simp
      refine hK.out _ _ h2 (fun _ => ?_)
      clear hK K
      try simp only [Act.put, List.setIfInBounds_toArray, List.set_cons_zero, List.set_cons_succ]
      have hG := joinG_store (w := w) (pg := pg) (wd := wd) (x := x) (y := y) (L := L) (R := R) (s := s) h2 r2 r1 (by omega) (by omega) (by omega)
      apply tree_run; (exact rfl); rfl; intro K hK
      refine wp_store_row 29 (.tmp 6) (.tmp 16) rfl (w1.drew.heap.size + 1) (node3 x L) rfl rfl 29 zero3 r2 info29' rfl (sl3_one _ _ _ _ _ _ _ _ _) ?_
      refine hK.out _ _ (below_setRow h2 (by omega) _) (fun _ => ?_)
      clear hK K
      try simp only [Act.put]
      apply tree_run; (exact rfl); rfl; intro K hK
      refine wp_store_row 29 (.tmp 7) (.tmp 18) rfl (w1.drew.heap.size) (node3 y R) rfl rfl 29 zero3 ((setRow_other _ _ _ _ (by omega)).trans r1) info29' rfl (sl3_one _ _ _ _ _ _ _ _ _) ?_
      refine hK.out _ _ hG.bl (fun _ => ?_)
      clear hK K
      try simp only [Act.put]
      exact tree_done ⟨(w1.drew.heap.size + 1, w1.drew.heap.size), rfl, rfl, hG⟩
  case rest =>
  rintro ⟨g1, g2⟩ W hG
  have HG0 := Lib.hid hG
  have HLR := Lib.hid (fun W (h : JoinG w pg wd x L s y R (g1, g2) W) => HL.out.below (join_below h.bl))
  have HRR := Lib.hid (fun W (h : JoinG w pg wd x L s y R (g1, g2) W) => HRD.out.below (join_below h.bl))
  clear hG
  obtain ⟨⟨⟨s0, s1⟩, s2⟩, ⟨m0, m1, m2⟩, ⟨n0, n1, n2⟩, ⟨z0, z1, z2, z3⟩⟩ := HG0.out.facts
  simp only [Act.put, List.setIfInBounds_toArray, List.set_cons_zero, List.set_cons_succ]
  dsimp only at m0 m1 m2 n0 n1 n2 z2 z3
  go_wp2_with (first
    | (go_at_call 62; skip; (refine (leaf_v pg wd _ _ _ _ _ _ L _ (HLR.out _ HG0.out) _ HB1.out).mono ?_; rintro e w2 ⟨rfl, hb2⟩; have HG1 := Lib.hid (HG0.out.next hb2); clear hb2 HG0 HB1; clear s0 s1 s2 m0 m1 m2 n0 n1 n2 z0 z1 z2 z3; obtain ⟨⟨⟨s0, s1⟩, s2⟩, ⟨m0, m1, m2⟩, ⟨n0, n1, n2⟩, ⟨z0, z1, z2, z3⟩⟩ := HG1.out.facts; dsimp only at m0 m1 m2 n0 n1 n2 z2 z3))
    | (go_at_call 62; go_must (refine (leaf_v pg wd _ _ _ _ _ _ R _ (HRR.out _ HG1.out) _ HB2.out).mono ?_; rintro e w3 ⟨rfl, hb3⟩; have HG2 := Lib.hid (HG1.out.next hb3); clear hb3 HG1 HB2; clear s0 s1 s2 m0 m1 m2 n0 n1 n2 z0 z1 z2 z3; obtain ⟨⟨⟨s0, s1⟩, s2⟩, ⟨m0, m1, m2⟩, ⟨n0, n1, n2⟩, ⟨z0, z1, z2, z3⟩⟩ := HG2.out.facts; dsimp only at m0 m1 m2 n0 n1 n2 z2 z3)))
  refine wp_region_grow (by kernel_rfl) (by kernel_rfl) ?_
  repeat (any_goals (first | go_big_quiet_step ((go_at_call 63; exact quiet_below (maxKey_c pg wd _ h0 h1))) | quiet_step ((go_at_call 63; exact quiet_below (maxKey_c pg wd _ h0 h1)))))
  refine wpQuiet_nil ?_
  intro w3 hb
  have HG3 := Lib.hid (HG2.out.next hb)
  clear hb HG2
  clear s0 s1 s2 m0 m1 m2 n0 n1 n2 z0 z1 z2 z3; obtain ⟨⟨⟨s0, s1⟩, s2⟩, ⟨m0, m1, m2⟩, ⟨n0, n1, n2⟩, ⟨z0, z1, z2, z3⟩⟩ := HG3.out.facts; dsimp only at m0 m1 m2 n0 n1 n2 z2 z3
  go_wp2
  have hm := HM.out
  obtain ⟨ab, ao, ax, ak, aj⟩ := pairs_at (HLR.out _ HG3.out).pairs (show m < L.pairs.length by omega)
  clear aj
  rw [← keyAt_get (show m < L.pairs.length by omega), HLK.out] at ak
  have hm0 : ((m : Int) + 1 == 0) = false := by rw [beq_eq_false_iff_ne]; omega
  have hmb : m ≤ 140737488355328 := by omega
  have ab3 : ab < w3.heap.size := World.block_lt_of_cell? _ _ ak
  rw [ax, hm] at m0; clear hm
  refine wp_region_grow (by kernel_rfl) (by kernel_rfl) ?_
  repeat (any_goals (first | go_big_quiet_step (fail) | quiet_step (fail)))
  refine wpQuiet_nil ?_
  intro w4 hb
  have HG4 := Lib.hid (HG3.out.next hb)
  clear hb HG3
  clear s0 s1 s2 m0 m1 m2 n0 n1 n2 z0 z1 z2 z3; obtain ⟨⟨⟨s0, s1⟩, s2⟩, ⟨m0, m1, m2⟩, ⟨n0, n1, n2⟩, ⟨z0, z1, z2, z3⟩⟩ := HG4.out.facts; dsimp only at m0 m1 m2 n0 n1 n2 z2 z3
  go_wp2
  clear ak ab3
  have hn := HNN.out
  obtain ⟨bb, bo, bx, bk, bj⟩ := pairs_at (HRR.out _ HG4.out).pairs (show 0 < R.pairs.length by omega)
  clear bj
  rw [← keyAt_get (show 0 < R.pairs.length by omega), HRK.out] at bk
  have bb4 : bb < w4.heap.size := World.block_lt_of_cell? _ _ bk
  simp only [Nat.zero_mul, Nat.add_zero] at bk
  rw [bx, hn] at n0; clear hn
  refine wp_region_grow (by kernel_rfl) (by kernel_rfl) ?_
  repeat (any_goals (first | go_big_quiet_step (fail) | quiet_step (fail)))
  refine wpQuiet_nil ?_
  intro w5 hb
  have HG5 := Lib.hid (HG4.out.next hb)
  clear hb HG4
  clear s0 s1 s2 m0 m1 m2 n0 n1 n2 z0 z1 z2 z3; obtain ⟨⟨⟨s0, s1⟩, s2⟩, ⟨m0, m1, m2⟩, ⟨n0, n1, n2⟩, ⟨z0, z1, z2, z3⟩⟩ := HG5.out.facts; dsimp only at m0 m1 m2 n0 n1 n2 z2 z3
  clear bk bb4
  have hg := join_row HG5.out.bl
  go_wp2_with (first
    | (refine wpList_store_row rfl 29 (.tmp 4) (.tmp 77) rfl (w.heap.size + 1 + 1) zero3 rfl rfl 29 _ hg info29' rfl (sl3_one _ _ _ _ _ _ _ _ _) ?_))
  refine bodyPost_ret (results_ct rfl _ _ (w.heap.size + 1 + 1) 29 zero3 (0, 0) _ rfl (setRow_block _ _ _ _ _ _ hg) Try.underlying29 rfl info29') rfl ?_
  exact join_err w _ pg wd L s R 81 HE.out (by decide) (below_setRow (join_below HG5.out.bl) (by omega) _)


end Go.Proofs.Ytajkoeodabmgeaa
end
