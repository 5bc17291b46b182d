import Derived.Test.YtajkoeodabmgeaaZ4

section
namespace Go.Proofs.Ytajkoeodabmgeaa
open Go.RowKit

/-- A schedule with forks: where two operations may come up, both ways are walked. -/
inductive Sch where
  | done
  | take (i : Nat) (r : Sch)
  | run (i : Nat) (r : Sch)
  | two (i j : Nat) (r s : Sch)

def Sch.depth : Sch → Nat
  | .done => 0
  | .take _ r => r.depth + 1
  | .run _ r => r.depth + 1
  | .two _ _ r _ => r.depth + 1

section
variable {P : Program} {ops : Array Oper} {Q : Exit → Act → World → Prop} {S : World → Prop}

def Sch.ok (ops : Array Oper) : Sch → Array Bool → Bool
  | .done, l => (Region.ready .any ops l).isEmpty
  | .take i r, l => Region.free .any ops l i && (Region.ready .any ops l).contains i && r.ok ops (l.setIfInBounds i true)
  | .run i r, l => (Region.ready .any ops l == [i]) && r.ok ops (l.setIfInBounds i true)
  | .two i j r s, l => (Region.ready .any ops l == [i, j]) && (r.depth == s.depth) && r.ok ops (l.setIfInBounds i true) && s.ok ops (l.setIfInBounds j true)

def wpTree (P : Program) (ops : Array Oper) (Q : Exit → Act → World → Prop) (S : World → Prop) : Sch → Act → World → Prop
  | .done, a, w => Q .normal a w
  | .take i r, a, w => ∃ o v, ops[i]? = some o ∧ YieldsIf P ops S o v a ∧ wpTree P ops Q S r (a.put o.dst v) w
  | .run i r, a, w => wpOp P ops Q i (fun a' w' => S w' ∧ wpTree P ops Q S r a' w') a w
  | .two i j r s, a, w => wpOp P ops Q i (fun a' w' => S w' ∧ wpTree P ops Q S r a' w') a w ∧ wpOp P ops Q j (fun a' w' => S w' ∧ wpTree P ops Q S s a' w') a w

theorem wpAnyH_of_tree (hs : Region.noSelect ops = true) (hQ : ∀ c (a : Act) d v w, Q (.panic c) (a.put d v) w → Q (.panic c) a w) : ∀ (t : Sch) (listed : Array Bool) (a : Act) (w : World),
    t.ok ops listed = true → S w → wpTree P ops Q S t a w → wpAnyH P .any ops Q S t.depth listed a w
  | .done, listed, a, w, h, _, hw => ⟨by simpa [Sch.ok] using h, hw⟩
  | .take i r, listed, a, w, h, hS, hw => by
    obtain ⟨o, v, hi, hy, hw⟩ := hw
    simp only [Sch.ok, Bool.and_eq_true] at h
    exact wpAnyH_take hi hs h.1.1 h.1.2 (fun c a w => hQ c a _ _ w) hy hS (wpAnyH_of_tree hs hQ r _ _ w h.2 hS hw)
  | .run i r, listed, a, w, h, hS, hw => by
    simp only [Sch.ok, Bool.and_eq_true, beq_iff_eq] at h
    refine wpAnyH_all h.1 (by simp) (fun j hj => ?_)
    obtain rfl : j = i := by simpa using hj
    exact wpOp_mono (fun a' w' h' => ⟨h'.1, wpAnyH_of_tree hs hQ r _ a' w' h.2 h'.1 h'.2⟩) hw
  | .two i j r s, listed, a, w, h, hS, hw => by
    simp only [Sch.ok, Bool.and_eq_true, beq_iff_eq] at h
    refine wpAnyH_all h.1.1.1 (by simp) (fun k hk => ?_)
    simp only [List.mem_cons, List.not_mem_nil, or_false] at hk
    rcases hk with rfl | rfl
    · exact wpOp_mono (fun a' w' h' => ⟨h'.1, wpAnyH_of_tree hs hQ r _ a' w' h.1.2 h'.1 h'.2⟩) hw.1
    · refine wpOp_mono (fun a' w' h' => ⟨h'.1, ?_⟩) hw.2
      have := wpAnyH_of_tree hs hQ s _ a' w' h.2 h'.1 h'.2
      rwa [← h.1.1.2] at this

theorem wp_region_tree {id : Nat} {a : Act} {w : World} (t : Sch) (hm : P.follows .mixedOrders = true) (hl : (t.depth == ops.size) = true)
    (hok : (t.ok ops (Array.replicate ops.size false) && Region.noSelect ops) = true) (hQ : ∀ c (a : Act) d v w, Q (.panic c) (a.put d v) w → Q (.panic c) a w) (hS : S w.drew) (h : wpTree P ops Q S t a w.drew) :
    (Code.region id ops true).wp P Q a w := by
  simp only [Bool.and_eq_true] at hok
  refine wp_region_held_drew (S := S) hm hS fun hS => ?_
  have := wpAnyH_of_tree hok.2 hQ t _ a _ hok.1 hS h
  rwa [beq_iff_eq.1 hl] at this

theorem tree_take {i : Nat} {o : Oper} {v : Value} {r : Sch} {a : Act} {w : World} {t : List Oper} (ho : ops.toList.drop i = o :: t) (hw : Region.wanted o (yielded ops a.tmps) = true)
    (h1 : ∀ w, S w → (execOp a.eval o).run P w = .ok (.value v) w) (h : wpTree P ops Q S r (a.put o.dst v) w) : wpTree P ops Q S (.take i r) a w :=
  ⟨o, v, at_drop ho, .inl ⟨hw, h1⟩, h⟩
theorem tree_pass {i : Nat} {o : Oper} {r : Sch} {a : Act} {w : World} {t : List Oper} (ho : ops.toList.drop i = o :: t) (hw : Region.wanted o (yielded ops a.tmps) = false)
    (h : wpTree P ops Q S r (a.put o.dst undef) w) : wpTree P ops Q S (.take i r) a w :=
  ⟨o, undef, at_drop ho, .inr ⟨hw, rfl⟩, h⟩
theorem tree_done {a : Act} {w : World} (h : Q .normal a w) : wpTree P ops Q S .done a w := h
theorem tree_run {i : Nat} {o : Oper} {r : Sch} {a : Act} {w : World} {t : List Oper} (ho : ops.toList.drop i = o :: t) (hw : Region.wanted o (yielded ops a.tmps) = true)
    (h : ∀ K' : Act → World → Prop, Shut (∀ a w, S w → (S w → wpTree P ops Q S r a w) → K' a w) → Oper.wp P o a w K' Q) : wpTree P ops Q S (.run i r) a w := by
  refine wpOp_step (at_drop ho) (fun K' hK => ?_)
  rw [if_pos hw]
  exact h K' (fun a w hS hW => hK a w ⟨hS, hW hS⟩)
theorem tree_two {i j : Nat} {r s : Sch} {a : Act} {w : World} (h1 : wpTree P ops Q S (.run i r) a w) (h2 : wpTree P ops Q S (.run j s) a w) : wpTree P ops Q S (.two i j r s) a w := ⟨h1, h2⟩
end

end Go.Proofs.Ytajkoeodabmgeaa
end

section
namespace Go.Proofs.Ytajkoeodabmgeaa
open Go.RowKit
set_option maxHeartbeats 2000000
set_option maxRecDepth 100000
attribute [local go_sem] grow_cell grow_frozen grow_size

/-- The first cut and the last. -/
def endsA (nd : NodeD) : Int := if nd.kids.length = 0 then 1 else 2
def endsZ (nd : NodeD) : Int := if nd.kids.length = 0 then nd.pairs.length - 1 else nd.kids.length - 2

theorem ends_c (A0 A1 A2 : Option Addr) (c0 c1 c2 : Nat) (nd : NodeD) (w : World) (hN : RdN w A0 c0 A1 c1 A2 c2 nd) :
    Calls Try.prog 76 #[vN A0 c0 A1 c1 A2 c2 nd] w fun e w' => e = .returned (.tuple #[.int .i64 (endsA nd), .int .i64 (endsZ nd)]) ∧ Below w.heap.size w w' := by
  have hp := hN.hp
  have hk := hN.hk
  clear hN
  by_cases h : nd.kids.length = 0
  · have hA : endsA nd = 1 := by simp [endsA, h]
    have hZ : endsZ nd = nd.pairs.length - 1 := by simp [endsZ, h]
    have HA := Lib.hid hA
    have HZ := Lib.hid hZ
    have hk1 : ((nd.kids.length : Int) == 0) = true := by simp [h]
    clear h hA hZ
    go_enter Try.func76, Try.ntmps76
    go_wp2
    refine wp_region_grow (by kernel_rfl) (by kernel_rfl) ?_
    repeat (any_goals (first | go_big_quiet_step (fail) | quiet_step (fail)))
    refine wpQuiet_nil ?_
    intro w1 hb
    go_wp2
    go_ret2
    exact ⟨by rw [HA.out, HZ.out]; rfl, below_a hb⟩
  · have hA : endsA nd = 2 := by simp [endsA, h]
    have hZ : endsZ nd = nd.kids.length - 2 := by simp [endsZ, h]
    have HA := Lib.hid hA
    have HZ := Lib.hid hZ
    have hk1 : ((nd.kids.length : Int) == 0) = false := by rw [beq_eq_false_iff_ne]; omega
    clear h hA hZ
    go_enter Try.func76, Try.ntmps76
    go_wp2
    refine wp_region_grow (by kernel_rfl) (by kernel_rfl) ?_
    repeat (any_goals (first | go_big_quiet_step (fail) | quiet_step (fail)))
    refine wpQuiet_nil ?_
    intro w1 hb
    go_wp2
    go_ret2
    exact ⟨by rw [HA.out, HZ.out]; rfl, below_a hb⟩

end Go.Proofs.Ytajkoeodabmgeaa
end

section
namespace Go.Proofs.Ytajkoeodabmgeaa
open Go.RowKit
set_option maxHeartbeats 2000000
set_option maxRecDepth 100000
attribute [local go_sem] grow_cell grow_frozen grow_size

def halvesL (nd : NodeD) (at_ : Nat) : NodeD := if nd.kids.length = 0 then ⟨nd.pairs.take at_, [], []⟩ else ⟨[], nd.seps.take (at_ - 1), nd.kids.take at_⟩
def halvesR (nd : NodeD) (at_ : Nat) : NodeD := if nd.kids.length = 0 then ⟨nd.pairs.drop at_, [], []⟩ else ⟨[], nd.seps.drop at_, nd.kids.drop at_⟩
def keyAt (ps : List PairD) (k : Nat) : ByteArray := (ps[k]?.getD ⟨⟨#[]⟩, ⟨#[]⟩⟩).k
def halvesS (nd : NodeD) (at_ : Nat) : ByteArray := if nd.kids.length = 0 then sepS (keyAt nd.pairs (at_ - 1)) (keyAt nd.pairs at_) else nd.seps[at_ - 1]?.getD ⟨#[]⟩

structure VH where
  A0 : Option Addr
  c0 : Nat
  A1 : Option Addr
  c1 : Nat
  A2 : Option Addr
  c2 : Nat

def VH.v (x : VH) (nd : NodeD) : List Value := [.slice x.A0 nd.pairs.length x.c0, .slice x.A1 nd.seps.length x.c1, .slice x.A2 nd.kids.length x.c2]
def VH.own (x : VH) (w : World) (lo hi : Nat) (nd : NodeD) : Prop := OwN w lo hi x.A0 x.c0 x.A1 x.c1 x.A2 x.c2 nd
abbrev vH (x : VH) (l : NodeD) (s : ByteArray) (y : VH) (r : NodeD) : Value :=
  .agg #[.slice x.A0 l.pairs.length x.c0, .slice x.A1 l.seps.length x.c1, .slice x.A2 l.kids.length x.c2, .string s, .slice y.A0 r.pairs.length y.c0, .slice y.A1 r.seps.length y.c1, .slice y.A2 r.kids.length y.c2]

theorem info54 : (Try.prog.info? 54).map (·.size) = some 7 := by kernel_rfl

theorem nd_box {w w1 : World} {a b c : Value} {o : Obj} (h : Below (w.heap.size + 1) ((w.alloc (.cells #[a, b, c] 29)).alloc o) w1) :
    w1.cell? ⟨w.heap.size, 0, none⟩ = some a ∧ w1.cell? ⟨w.heap.size, 1, none⟩ = some b ∧ w1.cell? ⟨w.heap.size, 2, none⟩ = some c := by
  have h0 : w1.heap[w.heap.size]? = some (.cells #[a, b, c] 29 (0, 0)) := (h.block _ (by omega)).trans ((Below.heap_alloc _ _ _ (by simp)).trans (heap_alloc_new w _))
  exact ⟨cell_of_row _ _ 0 _ _ _ h0, cell_of_row _ _ 1 _ _ _ h0, cell_of_row _ _ 2 _ _ _ h0⟩

abbrev hW (w : World) (a b c : Value) : World := (w.alloc (.cells #[a, b, c] 29)).alloc (.cells #[.slice none 0 0, .slice none 0 0, .slice none 0 0, .string ⟨#[]⟩, .slice none 0 0, .slice none 0 0, .slice none 0 0] 54)
theorem hW_box {w w1 : World} {a b c : Value} (hb : Below (hW w a b c).heap.size (hW w a b c) w1) : Box (w.heap.size + 1) 7 54 (hW w a b c) w1 :=
  ⟨hb.mono (by simp [hW]), _, (hb.block (w.heap.size + 1) (by simp [hW])).trans (alloc2_at w _ _), rfl⟩
theorem hW_cells {w w1 : World} {a b c : Value} (h : Box (w.heap.size + 1) 7 54 (hW w a b c) w1) : w1.cell? ⟨w.heap.size, 0, none⟩ = some a ∧ w1.cell? ⟨w.heap.size, 1, none⟩ = some b ∧ w1.cell? ⟨w.heap.size, 2, none⟩ = some c := nd_box h.1
theorem hW_below {w w1 : World} {a b c : Value} {g n : Nat} {t : TypeId} (hg : g = w.heap.size + 1) (h : Box g n t (hW w a b c) w1) : Below w.heap.size w w1 :=
  (((Below.refl _ _).alloc (Nat.le_refl _) _).alloc (by simp) _).trans (h.1.mono (by omega))

theorem putP_none (A0 : Option Addr) (c0 : Nat) (l : List PairD) (cur : World) (hR : Rd cur 2 A0 l.length (pcells l)) (hc : l.length ≤ c0) (hl : l.length * 32 ≤ 140737488355328) (i m : Nat) (x y : Int) (hx : x = i) (hy : y = m) (h : i + m ≤ l.length)
    (L : List PairD) (hL : l.take i ++ l.drop (i + m) = L) :
    Calls Try.prog 65 #[.slice A0 l.length c0, .int .i64 x, .int .i64 y, .slice none 0 0] cur fun e w' =>
      (∃ A c, e = .returned (.slice A L.length c) ∧ w'.ownsRow cur.heap.size 31 2 (.slice A L.length c) L.length (pcells L)) ∧ Below cur.heap.size cur w' := by
  subst hx hy hL
  refine (putP_c A0 none l.length c0 0 0 i m (pcells l) [] _ hR Rd.none_ hc h (by omega) (pc1 _) (by simp)).mono ?_
  rintro e w' ⟨⟨v, rfl, hown⟩, hb⟩
  have hl : (l.take i ++ l.drop (i + m)).length = l.length - m + 0 := by simp; omega
  have hp : pcells (l.take i ++ l.drop (i + m)) = (pcells l).take (i * 2) ++ [] ++ (pcells l).drop ((i + m) * 2) := by rw [pcells_append, pcells_take, pcells_drop, List.append_nil]
  rw [← hp, ← hl] at hown
  obtain ⟨A, c, rfl, _, _⟩ := own_rd hown
  exact ⟨⟨A, c, rfl, hown⟩, hb⟩

theorem OwN.leaf {w : World} {lo hi : Nat} {l : List PairD} {A : Option Addr} {c : Nat}
    (h : w.ownsRow lo 31 2 (.slice A l.length c) l.length (pcells l)) (hhi : w.heap.size ≤ hi) (hb : l.length * 32 ≤ 140737488355328) (hpk : ∀ q ∈ l, q.k.size ≤ 140737488355328 ∧ q.v.size ≤ 140737488355328) :
    OwN w lo hi A c none 0 none 0 ⟨l, [], []⟩ :=
  { pairs := h
    seps := World.ownsRow_nil _ _ _ _
    kids := World.ownsRow_nil _ _ _ _
    u0 := fun k hk => Nat.lt_of_lt_of_le (h.lt k hk).2 hhi
    u1 := fun k h => by simp [Value.ownBlock] at h
    u2 := fun k h => by simp [Value.ownBlock] at h
    hp := hb
    hs := by simp
    hk := by simp
    pk := hpk
    sk := fun q hq => by simp at hq
    kk := fun q hq => by simp at hq }

theorem keyAt_get {ps : List PairD} {k : Nat} (h : k < ps.length) : keyAt ps k = ps[k].k := by simp [keyAt, h]

theorem halves_leaf (A0 A1 A2 : Option Addr) (c0 c1 c2 : Nat) (nd : NodeD) (k : Nat) (w : World) (hN : RdN w A0 c0 A1 c1 A2 c2 nd) (hk : nd.kids.length = 0) (h2 : k + 1 < nd.pairs.length) :
    Calls Try.prog 77 #[vN A0 c0 A1 c1 A2 c2 nd, .int .i64 (k + 1)] w fun e w' =>
      ∃ x y mid, e = .returned (vH x (halvesL nd (k + 1)) (halvesS nd (k + 1)) y (halvesR nd (k + 1))) ∧ x.own w' w.heap.size mid (halvesL nd (k + 1)) ∧ y.own w' mid w'.heap.size (halvesR nd (k + 1)) ∧ Below w.heap.size w w' ∧ w.heap.size ≤ mid := by
  have hp := hN.hp
  have hc0 := hN.hcp
  have HN := Lib.hid hN
  have HPK := Lib.hid hN.pk
  have hkk : ((nd.kids.length : Int) == 0) = true := by simp [hk]
  have HK := Lib.hid hk
  have HL : Hid (halvesL nd (k + 1) = ⟨nd.pairs.take (k + 1), [], []⟩) := Lib.hid (by simp [halvesL, hk])
  have HRR : Hid (halvesR nd (k + 1) = ⟨nd.pairs.drop (k + 1), [], []⟩) := Lib.hid (by simp [halvesR, hk])
  clear hk
  obtain ⟨ab, ao, rfl, hk0, hk1⟩ := pairs_at (HN.out.pairs) h2
  obtain ⟨ab', ao', he, hj0, hj1⟩ := pairs_at (HN.out.pairs) (show k < nd.pairs.length by omega)
  cases he
  have habl := World.block_lt_of_cell? _ _ hk0
  have hb1 := (HPK.out _ (List.getElem_mem h2)).1
  have hb2 := (HPK.out _ (List.getElem_mem (show k < nd.pairs.length by omega))).1
  have habl : ab < w.heap.size := habl
  have habl1 : ab < w.heap.size + 1 := by omega
  have habl2 : ab < w.heap.size + 1 + 1 := by omega
  clear hN
  go_enter Try.func77, Try.ntmps77
  go_wp2
  refine wp_region_grow (by kernel_rfl) (by kernel_rfl) ?_
  repeat (any_goals (first
    | go_big_quiet_step ((go_at_call 27; exact quiet_below (between_c _ _ _ hb2 hb1)))
    | quiet_step ((go_at_call 27; exact quiet_below (between_c _ _ _ hb2 hb1)))))
  refine wpQuiet_nil ?_
  intro w1 hb
  go_wp2
  have hS1 := hW_box hb
  have HF := Lib.hid (fun W (h : Box (w.heap.size + 1) 7 54 (hW w (.slice (some ⟨ab, ao, none⟩) nd.pairs.length c0) (.slice A1 nd.seps.length c1) (.slice A2 nd.kids.length c2)) W) => (hW_cells h).1)
  refine wp_region_sched (S := Box (w.heap.size + 1) 7 54 (hW w (.slice (some ⟨ab, ao, none⟩) nd.pairs.length c0) (.slice A1 nd.seps.length c1) (.slice A2 nd.kids.length c2)))
    [(0, true), (1, true), (2, true), (3, true), (4, true), (5, true), (6, true), (7, true), (10, true), (11, true), (12, true), (13, true), (8, false), (9, true), (14, false), (15, true), (16, true), (17, false)]
    (by kernel_rfl) (by kernel_rfl) (by kernel_rfl) (fun _ _ d _ _ h => by cases d <;> exact h) hS1.drew ?_
  repeat (apply sched_take; (exact rfl); rfl; (intro W hW; have q := HF.out W hW; go_simp; (try with_reducible rfl)); simp only [Act.put, List.setIfInBounds_toArray, List.set_cons_zero, List.set_cons_succ])
  apply sched_run; (exact rfl); rfl; intro K hK; go_simp
  refine (putP_none _ c0 nd.pairs _ (HN.out.pairs.below (hW_below rfl hS1.drew)) hc0 hp (k + 1) (nd.pairs.length - (k + 1)) _ _ (by omega) (by rw [IntWalk.i64_in _ (by omega)]; omega) (by omega) (halvesL nd (k + 1)).pairs (by rw [HL.out, List.drop_of_length_le (by omega), List.append_nil])).mono ?_
  rintro e w2 ⟨⟨B0, d0, rfl, hown2⟩, hb2⟩
  have hS2 := hS1.drew.step hb2
  have HO2 := Lib.hid hown2
  clear hown2 hS1
  refine hK.out _ _ hS2 (fun _ => ?_)
  clear hK K
  try simp only [Act.put, List.setIfInBounds_toArray, List.set_cons_zero, List.set_cons_succ]
  repeat (apply sched_take; (exact rfl); rfl; (intro W hW; have q := HF.out W hW; go_simp; (try with_reducible rfl)); simp only [Act.put, List.setIfInBounds_toArray, List.set_cons_zero, List.set_cons_succ])
  apply sched_run; (exact rfl); rfl; intro K hK; go_simp
  refine (putP_none _ c0 nd.pairs _ (HN.out.pairs.below (hW_below rfl hS2)) hc0 hp 0 (k + 1) _ _ rfl (by omega) (by omega) (halvesR nd (k + 1)).pairs (by rw [HRR.out]; simp)).mono ?_
  rintro e w3 ⟨⟨C0, e0, rfl, hown3⟩, hb3⟩
  have hS3 := hS2.step hb3
  have HO3 := Lib.hid hown3
  clear hown3
  refine hK.out _ _ hS3 (fun _ => ?_)
  clear hK K
  try simp only [Act.put, List.setIfInBounds_toArray, List.set_cons_zero, List.set_cons_succ]
  repeat (apply sched_take; (exact rfl); rfl; (intro W hW; have q := HF.out W hW; go_simp; (try with_reducible rfl)); simp only [Act.put, List.setIfInBounds_toArray, List.set_cons_zero, List.set_cons_succ])
  apply sched_run; (exact rfl); rfl; intro K hK
  refine wp_store_box hS3 54 (.tmp 4) (.tmp 44) rfl _ rfl rfl info54 rfl ?_ ?_
  · simp [Value.oneCell']
  refine hK.out _ _ (hS3.setRow _ rfl) (fun hS4 => ?_)
  clear hK K
  refine sched_done ?_
  go_wp2
  refine bodyPost_ret (results_cell_row rfl _ _ (w.heap.size + 1) 54 _ (0, 0) _ rfl (hS3.2.setRow _ rfl).2 Try.underlying54 rfl info54) rfl ?_
  have hS : halvesS nd (k + 1) = sepS nd.pairs[k].k nd.pairs[k + 1].k := by rw [halvesS, if_pos HK.out, Nat.add_sub_cancel, keyAt_get h2, keyAt_get (by omega)]
  have hg1 : w.heap.size + 1 < w1.heap.size := by have := hb.size; simp at this; omega
  have e1 : (halvesL nd (k + 1)).seps = [] := by rw [HL.out]
  have e2 : (halvesL nd (k + 1)).kids = [] := by rw [HL.out]
  have e3 : (halvesR nd (k + 1)).seps = [] := by rw [HRR.out]
  have e4 : (halvesR nd (k + 1)).kids = [] := by rw [HRR.out]
  have e5 : (halvesL nd (k + 1)).pairs = nd.pairs.take (k + 1) := by rw [HL.out]
  have e6 : (halvesR nd (k + 1)).pairs = nd.pairs.drop (k + 1) := by rw [HRR.out]
  refine ⟨⟨B0, d0, none, 0, none, 0⟩, ⟨C0, e0, none, 0, none, 0⟩, w2.heap.size, ret_eq (by rw [vH, hS, e1, e2, e3, e4]; rfl), ?_, ?_, hW_below rfl (hS3.setRow _ rfl), by have : w1.heap.size ≤ w2.heap.size := hb2.size; omega⟩
  · have hO2 := HO2.out
    rw [e5] at hO2
    have h1 := OwN.leaf hO2 (Nat.le_refl _) (by rw [List.length_take]; omega) (fun q hq => HPK.out q (List.mem_of_mem_take hq))
    rw [HL.out]
    exact ((h1.below hb3).setRow _ _ hg1).wide (by have : w.heap.size + 1 < w1.drew.heap.size := hg1; omega) (Nat.le_refl _)
  · have hO3 := HO3.out
    rw [e6] at hO3
    have h1 := OwN.leaf hO3 (Nat.le_refl _) (by rw [List.length_drop]; omega) (fun q hq => HPK.out q (List.mem_of_mem_drop hq))
    rw [HRR.out]
    exact (h1.setRow _ _ (by have : w1.heap.size ≤ w2.heap.size := hb2.size; omega)).wide (Nat.le_refl _) (by simp [World.setRow])

end Go.Proofs.Ytajkoeodabmgeaa
end

section
namespace Go.Proofs.Ytajkoeodabmgeaa
open Go.RowKit
set_option maxHeartbeats 2000000
set_option maxRecDepth 100000
attribute [local go_sem] grow_cell grow_frozen grow_size

theorem putK_none (A0 : Option Addr) (c0 : Nat) (l : List KidD) (cur : World) (hR : Rd cur 33 A0 l.length (kcells l)) (hc : l.length ≤ c0) (hl : l.length * 36 ≤ 140737488355328) (i m : Nat) (x y : Int) (hx : x = i) (hy : y = m) (h : i + m ≤ l.length)
    (hk : ∀ q ∈ l, q.sum.length = 32) (L : List KidD) (hL : l.take i ++ l.drop (i + m) = L) :
    Calls Try.prog 85 #[.slice A0 l.length c0, .int .i64 x, .int .i64 y, .slice none 0 0] cur fun e w' =>
      (∃ A c, e = .returned (.slice A L.length c) ∧ w'.ownsRow cur.heap.size 85 33 (.slice A L.length c) L.length (kcells L)) ∧ Below cur.heap.size cur w' := by
  subst hx hy hL
  refine (putK_c A0 none l.length c0 0 0 i m (kcells l) [] _ hR Rd.none_ hc h (by omega) (kc1 _) (by simp)).mono ?_
  rintro e w' ⟨⟨v, rfl, hown⟩, hb⟩
  have hl : (l.take i ++ l.drop (i + m)).length = l.length - m + 0 := by simp; omega
  have hp : kcells (l.take i ++ l.drop (i + m)) = (kcells l).take (i * 33) ++ [] ++ (kcells l).drop ((i + m) * 33) := by rw [kcells_append, kcells_take _ _ hk, kcells_drop _ _ hk, List.append_nil]
  rw [← hp, ← hl] at hown
  obtain ⟨A, c, rfl, _, _⟩ := own_rd hown
  exact ⟨⟨A, c, rfl, hown⟩, hb⟩
theorem putS_none (A0 : Option Addr) (c0 : Nat) (l : List ByteArray) (cur : World) (hR : Rd cur 1 A0 l.length (scells l)) (hc : l.length ≤ c0) (hl : l.length * 16 ≤ 140737488355328) (i m : Nat) (x y : Int) (hx : x = i) (hy : y = m) (h : i + m ≤ l.length)
    (L : List ByteArray) (hL : l.take i ++ l.drop (i + m) = L) :
    Calls Try.prog 86 #[.slice A0 l.length c0, .int .i64 x, .int .i64 y, .slice none 0 0] cur fun e w' =>
      (∃ A c, e = .returned (.slice A L.length c) ∧ w'.ownsRow cur.heap.size 9 1 (.slice A L.length c) L.length (scells L)) ∧ Below cur.heap.size cur w' := by
  subst hx hy hL
  refine (putS_c A0 none l.length c0 0 0 i m (scells l) [] _ hR Rd.none_ hc h (by omega) (sc1 _) (by simp)).mono ?_
  rintro e w' ⟨⟨v, rfl, hown⟩, hb⟩
  have hl : (l.take i ++ l.drop (i + m)).length = l.length - m + 0 := by simp; omega
  have hp : scells (l.take i ++ l.drop (i + m)) = (scells l).take (i * 1) ++ [] ++ (scells l).drop ((i + m) * 1) := by rw [scells_append, scells_take, scells_drop, List.append_nil]
  rw [← hp, ← hl] at hown
  obtain ⟨A, c, rfl, _, _⟩ := own_rd hown
  exact ⟨⟨A, c, rfl, hown⟩, hb⟩

theorem OwN.branch {w : World} {lo hi : Nat} {l : List KidD} {s : List ByteArray} {A B : Option Addr} {c d : Nat}
    (h : w.ownsRow lo 85 33 (.slice A l.length c) l.length (kcells l)) (h' : w.ownsRow lo 9 1 (.slice B s.length d) s.length (scells s)) (hhi : w.heap.size ≤ hi) (hb : l.length * 36 ≤ 140737488355328) (hb' : s.length * 16 ≤ 140737488355328)
    (hkk : ∀ q ∈ l, q.sum.length = 32) (hsk : ∀ q ∈ s, q.size ≤ 140737488355328) :
    OwN w lo hi none 0 B d A c ⟨[], s, l⟩ :=
  { pairs := World.ownsRow_nil _ _ _ _
    seps := h'
    kids := h
    u0 := fun k h => by simp [Value.ownBlock] at h
    u1 := fun k hk => Nat.lt_of_lt_of_le (h'.lt k hk).2 hhi
    u2 := fun k hk => Nat.lt_of_lt_of_le (h.lt k hk).2 hhi
    hp := by simp
    hs := hb'
    hk := hb
    pk := fun q hq => by simp at hq
    sk := hsk
    kk := hkk }

theorem halves_branch (A0 A1 A2 : Option Addr) (c0 c1 c2 : Nat) (nd : NodeD) (k : Nat) (w : World) (hN : RdN w A0 c0 A1 c1 A2 c2 nd) (hk : nd.kids.length ≠ 0) (h2 : k + 1 ≤ nd.kids.length) (h3 : k + 1 ≤ nd.seps.length) :
    Calls Try.prog 77 #[vN A0 c0 A1 c1 A2 c2 nd, .int .i64 (k + 1)] w fun e w' =>
      ∃ x y mid, e = .returned (vH x (halvesL nd (k + 1)) (halvesS nd (k + 1)) y (halvesR nd (k + 1))) ∧ x.own w' w.heap.size mid (halvesL nd (k + 1)) ∧ y.own w' mid w'.heap.size (halvesR nd (k + 1)) ∧ Below w.heap.size w w' ∧ w.heap.size ≤ mid := by
  have hks := hN.hk
  have hss := hN.hs
  have hc1 := hN.hcs
  have hc2 := hN.hck
  have HN := Lib.hid hN
  have HKK := Lib.hid hN.kk
  have HSK := Lib.hid hN.sk
  have hkk : ((nd.kids.length : Int) == 0) = false := by rw [beq_eq_false_iff_ne]; omega
  have HK := Lib.hid hk
  have HL : Hid (halvesL nd (k + 1) = ⟨[], nd.seps.take k, nd.kids.take (k + 1)⟩) := Lib.hid (by simp only [halvesL, if_neg hk, Nat.add_sub_cancel])
  have HRR : Hid (halvesR nd (k + 1) = ⟨[], nd.seps.drop (k + 1), nd.kids.drop (k + 1)⟩) := Lib.hid (by simp only [halvesR, if_neg hk])
  obtain ⟨ab, ao, rfl, hj0⟩ := seps_at (HN.out.seps) (show k < nd.seps.length by omega)
  have habl : ab < w.heap.size := World.block_lt_of_cell? _ _ hj0
  have habl1 : ab < w.heap.size + 1 := by omega
  have hki : (k : Int) < nd.seps.length := by omega
  have hki2 : k < nd.seps.length := by omega
  have hwk : IntKind.i64.wrap (k : Int) = k := IntWalk.i64_in _ (by omega)
  have HJ := Lib.hid hj0
  clear hN hk hj0
  go_enter Try.func77, Try.ntmps77
  go_wp2
  have hS1 : Box (w.heap.size + 1) 7 54 (hW w (.slice A0 nd.pairs.length c0) (.slice (some ⟨ab, ao, none⟩) nd.seps.length c1) (.slice A2 nd.kids.length c2)) (hW w (.slice A0 nd.pairs.length c0) (.slice (some ⟨ab, ao, none⟩) nd.seps.length c1) (.slice A2 nd.kids.length c2)) := hW_box (Below.refl _ _)
  have HF := Lib.hid (fun W (h : Box (w.heap.size + 1) 7 54 (hW w (.slice A0 nd.pairs.length c0) (.slice (some ⟨ab, ao, none⟩) nd.seps.length c1) (.slice A2 nd.kids.length c2)) W) => And.intro (hW_cells h) (((hW_below rfl h).cell (p := ⟨ab, ao + k, none⟩) habl).trans HJ.out))
  refine wp_region_sched (S := Box (w.heap.size + 1) 7 54 (hW w (.slice A0 nd.pairs.length c0) (.slice (some ⟨ab, ao, none⟩) nd.seps.length c1) (.slice A2 nd.kids.length c2)))
    [(0, true), (1, true), (2, true), (3, true), (4, true), (5, true), (6, true), (7, true), (9, true), (10, true), (11, true), (12, true), (13, true), (14, true), (15, true), (16, true), (17, true), (18, true),
     (21, true), (22, true), (23, true), (24, true), (25, true), (26, true), (27, true), (28, true), (29, true), (31, true), (32, true), (33, true), (8, false), (19, false), (20, true), (30, false), (34, false), (35, true), (36, true), (37, false)]
    (by kernel_rfl) (by kernel_rfl) (by kernel_rfl) (fun _ _ d _ _ h => by cases d <;> exact h) hS1.drew ?_
  repeat (apply sched_take; (exact rfl); rfl; (intro W hW; obtain ⟨⟨q0, q1, q2⟩, q3⟩ := HF.out W hW; go_simp; (try with_reducible rfl)); simp only [Act.put, List.setIfInBounds_toArray, List.set_cons_zero, List.set_cons_succ])
  apply sched_run; (exact rfl); rfl; intro K hK; go_simp
  refine (putK_none _ c2 nd.kids _ (HN.out.kids.below (hW_below rfl hS1.drew)) hc2 hks (k + 1) (nd.kids.length - (k + 1)) _ _ (by omega) (by rw [IntWalk.i64_in _ (by omega)]; omega) (by omega) HKK.out (halvesL nd (k + 1)).kids (by rw [HL.out, List.drop_of_length_le (by omega), List.append_nil])).mono ?_
  rintro e w2 ⟨⟨B0, d0, rfl, hown2⟩, hb2⟩
  have hS2 := hS1.drew.step hb2
  have HO2 := Lib.hid hown2
  have hg1 : w.heap.size + 1 < w2.heap.size := hS2.2.lt
  clear hown2
  refine hK.out _ _ hS2 (fun _ => ?_)
  clear hK K
  try simp only [Act.put, List.setIfInBounds_toArray, List.set_cons_zero, List.set_cons_succ]
  repeat (apply sched_take; (exact rfl); rfl; (intro W hW; obtain ⟨⟨q0, q1, q2⟩, q3⟩ := HF.out W hW; go_simp; (try with_reducible rfl)); simp only [Act.put, List.setIfInBounds_toArray, List.set_cons_zero, List.set_cons_succ])
  apply sched_run; (exact rfl); rfl; intro K hK; go_simp
  refine (putS_none _ c1 nd.seps _ (HN.out.seps.below (hW_below rfl hS2)) hc1 hss k (nd.seps.length - k) _ _ rfl (by rw [IntWalk.i64_in (_ - _) (by omega), IntWalk.i64_in _ (by omega)]; omega) (by omega) (halvesL nd (k + 1)).seps (by rw [HL.out, List.drop_of_length_le (by omega), List.append_nil])).mono ?_
  rintro e w3 ⟨⟨B1, d1, rfl, hown3⟩, hb3⟩
  have hS3 := hS2.step hb3
  have HO3 := Lib.hid hown3
  clear hown3
  refine hK.out _ _ hS3 (fun _ => ?_)
  clear hK K
  try simp only [Act.put, List.setIfInBounds_toArray, List.set_cons_zero, List.set_cons_succ]
  repeat (apply sched_take; (exact rfl); rfl; (intro W hW; obtain ⟨⟨q0, q1, q2⟩, q3⟩ := HF.out W hW; go_simp; (try with_reducible rfl)); simp only [Act.put, List.setIfInBounds_toArray, List.set_cons_zero, List.set_cons_succ])
  apply sched_run; (exact rfl); rfl; intro K hK; go_simp
  refine (putK_none _ c2 nd.kids _ (HN.out.kids.below (hW_below rfl hS3)) hc2 hks 0 (k + 1) _ _ rfl (by omega) (by omega) HKK.out (halvesR nd (k + 1)).kids (by rw [HRR.out]; simp)).mono ?_
  rintro e w4 ⟨⟨C0, e0, rfl, hown4⟩, hb4⟩
  have hS4 := hS3.step hb4
  have HO4 := Lib.hid hown4
  clear hown4
  refine hK.out _ _ hS4 (fun _ => ?_)
  clear hK K
  try simp only [Act.put, List.setIfInBounds_toArray, List.set_cons_zero, List.set_cons_succ]
  repeat (apply sched_take; (exact rfl); rfl; (intro W hW; obtain ⟨⟨q0, q1, q2⟩, q3⟩ := HF.out W hW; go_simp; (try with_reducible rfl)); simp only [Act.put, List.setIfInBounds_toArray, List.set_cons_zero, List.set_cons_succ])
  apply sched_run; (exact rfl); rfl; intro K hK; go_simp
  refine (putS_none _ c1 nd.seps _ (HN.out.seps.below (hW_below rfl hS4)) hc1 hss 0 (k + 1) _ _ rfl (by omega) (by omega) (halvesR nd (k + 1)).seps (by rw [HRR.out]; simp)).mono ?_
  rintro e w5 ⟨⟨C1, f1, rfl, hown5⟩, hb5⟩
  have hS5 := hS4.step hb5
  have HO5 := Lib.hid hown5
  clear hown5
  refine hK.out _ _ hS5 (fun _ => ?_)
  clear hK K
  try simp only [Act.put, List.setIfInBounds_toArray, List.set_cons_zero, List.set_cons_succ]
  repeat (apply sched_take; (exact rfl); rfl; (intro W hW; obtain ⟨⟨q0, q1, q2⟩, q3⟩ := HF.out W hW; go_simp; (try with_reducible rfl)); simp only [Act.put, List.setIfInBounds_toArray, List.set_cons_zero, List.set_cons_succ])
  apply sched_run; (exact rfl); rfl; intro K hK
  refine wp_store_box hS5 54 (.tmp 4) (.tmp 81) rfl _ rfl rfl info54 rfl ?_ ?_
  · simp [Value.oneCell']
  refine hK.out _ _ (hS5.setRow _ rfl) (fun hS6 => ?_)
  clear hK K
  refine sched_done ?_
  go_wp2
  refine bodyPost_ret (results_cell_row rfl _ _ (w.heap.size + 1) 54 _ (0, 0) _ rfl (hS5.2.setRow _ rfl).2 Try.underlying54 rfl info54) rfl ?_
  have hS : halvesS nd (k + 1) = nd.seps[k] := by rw [halvesS, if_neg HK.out, Nat.add_sub_cancel, List.getElem?_eq_getElem hki2]; rfl
  have e1 : (halvesL nd (k + 1)).pairs = [] := by rw [HL.out]
  have e2 : (halvesR nd (k + 1)).pairs = [] := by rw [HRR.out]
  have e3 : (halvesL nd (k + 1)).seps = nd.seps.take k := by rw [HL.out]
  have e4 : (halvesL nd (k + 1)).kids = nd.kids.take (k + 1) := by rw [HL.out]
  have e5 : (halvesR nd (k + 1)).seps = nd.seps.drop (k + 1) := by rw [HRR.out]
  have e6 : (halvesR nd (k + 1)).kids = nd.kids.drop (k + 1) := by rw [HRR.out]
  refine ⟨⟨none, 0, B1, d1, B0, d0⟩, ⟨none, 0, C1, f1, C0, e0⟩, w3.heap.size, ret_eq (by rw [vH, hS, e1, e2]; rfl), ?_, ?_, hW_below rfl (hS5.setRow _ rfl), by have := hb3.size; omega⟩
  · have hO2 := own_below HO2.out hb3
    have hO3 := HO3.out
    rw [e4] at hO2
    rw [e3] at hO3
    have h1 := OwN.branch (ownsRow_mono' (base' := w.heap.size + 1 + 1) hO2 (by simp [hW])) (ownsRow_mono' (base' := w.heap.size + 1 + 1) hO3 hg1) (Nat.le_refl _) (by rw [List.length_take]; omega) (by rw [List.length_take]; omega) (fun q hq => HKK.out q (List.mem_of_mem_take hq)) (fun q hq => HSK.out q (List.mem_of_mem_take hq))
    rw [HL.out]
    exact (((h1.below hb4).below hb5).setRow _ _ (by omega)).wide (by omega) (Nat.le_refl _)
  · have hO4 := own_below HO4.out hb5
    have hO5 := HO5.out
    rw [e6] at hO4
    rw [e5] at hO5
    have h1 := OwN.branch (ownsRow_mono' hO4 (Nat.le_refl _)) (ownsRow_mono' hO5 hb4.size) (Nat.le_refl _) (by rw [List.length_drop]; omega) (by rw [List.length_drop]; omega) (fun q hq => HKK.out q (List.mem_of_mem_drop hq)) (fun q hq => HSK.out q (List.mem_of_mem_drop hq))
    rw [HRR.out]
    exact (h1.setRow _ _ (hS3.2.lt)).wide (Nat.le_refl _) (by simp [World.setRow])

/-- May the node be cut there? -/
def cutOk (nd : NodeD) (k : Nat) : Prop := if nd.kids.length = 0 then 1 ≤ k ∧ k < nd.pairs.length else 1 ≤ k ∧ k ≤ nd.kids.length ∧ k ≤ nd.seps.length

theorem halves_c (A0 A1 A2 : Option Addr) (c0 c1 c2 : Nat) (nd : NodeD) (k : Nat) (w : World) (hN : RdN w A0 c0 A1 c1 A2 c2 nd) (h : cutOk nd k) :
    Calls Try.prog 77 #[vN A0 c0 A1 c1 A2 c2 nd, .int .i64 k] w fun e w' =>
      ∃ x y mid, e = .returned (vH x (halvesL nd k) (halvesS nd k) y (halvesR nd k)) ∧ x.own w' w.heap.size mid (halvesL nd k) ∧ y.own w' mid w'.heap.size (halvesR nd k) ∧ Below w.heap.size w w' ∧ w.heap.size ≤ mid := by
  unfold cutOk at h
  split at h
  · rename_i hk
    obtain ⟨j, rfl⟩ : ∃ j, k = j + 1 := ⟨k - 1, by omega⟩
    exact halves_leaf A0 A1 A2 c0 c1 c2 nd j w hN hk h.2
  · rename_i hk
    obtain ⟨j, rfl⟩ : ∃ j, k = j + 1 := ⟨k - 1, by omega⟩
    exact halves_branch A0 A1 A2 c0 c1 c2 nd j w hN hk h.2.1 h.2.2

end Go.Proofs.Ytajkoeodabmgeaa
end
