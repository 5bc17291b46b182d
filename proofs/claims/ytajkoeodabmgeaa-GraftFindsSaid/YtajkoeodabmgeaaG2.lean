import Derived.Test.YtajkoeodabmgeaaG1
namespace Go.Proofs.Ytajkoeodabmgeaa
open Go.RowKit
set_option maxHeartbeats 2000000
set_option maxRecDepth 100000
attribute [local go_sem] grow_cell grow_frozen grow_size

def halvesL (nd : NodeD) (at_ : Nat) : NodeD := if nd.kids.length = 0 then ⟨nd.pairs.take at_, [], []⟩ else ⟨[], nd.seps.take (at_ - 1), nd.kids.take at_⟩
def halvesR (nd : NodeD) (at_ : Nat) : NodeD := if nd.kids.length = 0 then ⟨nd.pairs.drop at_, [], []⟩ else ⟨[], nd.seps.drop at_, nd.kids.drop at_⟩
def keyAt (ps : List PairD) (k : Nat) : ByteArray := (ps[k]?.getD ⟨⟨#[]⟩, ⟨#[]⟩⟩).k
def halvesS (nd : NodeD) (at_ : Nat) : ByteArray := if nd.kids.length = 0 then sepS (keyAt nd.pairs (at_ - 1)) (keyAt nd.pairs at_) else nd.seps[at_ - 1]?.getD ⟨#[]⟩

structure VH where
  A0 : Option Addr
  c0 : Nat
  A1 : Option Addr
  c1 : Nat
  A2 : Option Addr
  c2 : Nat

def VH.v (x : VH) (nd : NodeD) : List Value := [.slice x.A0 nd.pairs.length x.c0, .slice x.A1 nd.seps.length x.c1, .slice x.A2 nd.kids.length x.c2]
def VH.own (x : VH) (w : World) (lo hi : Nat) (nd : NodeD) : Prop := OwN w lo hi x.A0 x.c0 x.A1 x.c1 x.A2 x.c2 nd
abbrev vH (x : VH) (l : NodeD) (s : ByteArray) (y : VH) (r : NodeD) : Value :=
  .agg #[.slice x.A0 l.pairs.length x.c0, .slice x.A1 l.seps.length x.c1, .slice x.A2 l.kids.length x.c2, .string s, .slice y.A0 r.pairs.length y.c0, .slice y.A1 r.seps.length y.c1, .slice y.A2 r.kids.length y.c2]

theorem info54 : (Try.prog.info? 54).map (·.size) = some 7 := by kernel_rfl

theorem nd_box {w w1 : World} {a b c : Value} {o : Obj} (h : Below (w.heap.size + 1) ((w.alloc (.cells #[a, b, c] 29)).alloc o) w1) :
    w1.cell? ⟨w.heap.size, 0, none⟩ = some a ∧ w1.cell? ⟨w.heap.size, 1, none⟩ = some b ∧ w1.cell? ⟨w.heap.size, 2, none⟩ = some c := by
  have h0 : w1.heap[w.heap.size]? = some (.cells #[a, b, c] 29 (0, 0)) := (h.block _ (by omega)).trans ((Below.heap_alloc _ _ _ (by simp)).trans (heap_alloc_new w _))
  exact ⟨cell_of_row _ _ 0 _ _ _ h0, cell_of_row _ _ 1 _ _ _ h0, cell_of_row _ _ 2 _ _ _ h0⟩

abbrev hW (w : World) (a b c : Value) : World := (w.alloc (.cells #[a, b, c] 29)).alloc (.cells #[.slice none 0 0, .slice none 0 0, .slice none 0 0, .string ⟨#[]⟩, .slice none 0 0, .slice none 0 0, .slice none 0 0] 54)
theorem hW_box {w w1 : World} {a b c : Value} (hb : Below (hW w a b c).heap.size (hW w a b c) w1) : Box (w.heap.size + 1) 7 54 (hW w a b c) w1 :=
  ⟨hb.mono (by simp [hW]), _, (hb.block (w.heap.size + 1) (by simp [hW])).trans (alloc2_at w _ _), rfl⟩
theorem hW_cells {w w1 : World} {a b c : Value} (h : Box (w.heap.size + 1) 7 54 (hW w a b c) w1) : w1.cell? ⟨w.heap.size, 0, none⟩ = some a ∧ w1.cell? ⟨w.heap.size, 1, none⟩ = some b ∧ w1.cell? ⟨w.heap.size, 2, none⟩ = some c := nd_box h.1
theorem hW_below {w w1 : World} {a b c : Value} {g n : Nat} {t : TypeId} (hg : g = w.heap.size + 1) (h : Box g n t (hW w a b c) w1) : Below w.heap.size w w1 :=
  (((Below.refl _ _).alloc (Nat.le_refl _) _).alloc (by simp) _).trans (h.1.mono (by omega))

theorem putP_none (A0 : Option Addr) (c0 : Nat) (l : List PairD) (cur : World) (hR : Rd cur 2 A0 l.length (pcells l)) (hc : l.length ≤ c0) (hl : l.length * 32 ≤ 140737488355328) (i m : Nat) (x y : Int) (hx : x = i) (hy : y = m) (h : i + m ≤ l.length)
    (L : List PairD) (hL : l.take i ++ l.drop (i + m) = L) :
    Calls Try.prog 65 #[.slice A0 l.length c0, .int .i64 x, .int .i64 y, .slice none 0 0] cur fun e w' =>
      (∃ A c, e = .returned (.slice A L.length c) ∧ w'.ownsRow cur.heap.size 31 2 (.slice A L.length c) L.length (pcells L)) ∧ Below cur.heap.size cur w' := by
  subst hx hy hL
  refine (putP_c A0 none l.length c0 0 0 i m (pcells l) [] _ hR Rd.none_ hc h (by omega) (pc1 _) (by simp)).mono ?_
  rintro e w' ⟨⟨v, rfl, hown⟩, hb⟩
  have hl : (l.take i ++ l.drop (i + m)).length = l.length - m + 0 := by simp; omega
  have hp : pcells (l.take i ++ l.drop (i + m)) = (pcells l).take (i * 2) ++ [] ++ (pcells l).drop ((i + m) * 2) := by rw [pcells_append, pcells_take, pcells_drop, List.append_nil]
  rw [← hp, ← hl] at hown
  obtain ⟨A, c, rfl, _, _⟩ := own_rd hown
  exact ⟨⟨A, c, rfl, hown⟩, hb⟩

theorem OwN.leaf {w : World} {lo hi : Nat} {l : List PairD} {A : Option Addr} {c : Nat}
    (h : w.ownsRow lo 31 2 (.slice A l.length c) l.length (pcells l)) (hhi : w.heap.size ≤ hi) (hb : l.length * 32 ≤ 140737488355328) (hpk : ∀ q ∈ l, q.k.size ≤ 140737488355328 ∧ q.v.size ≤ 140737488355328) :
    OwN w lo hi A c none 0 none 0 ⟨l, [], []⟩ :=
  { pairs := h
    seps := World.ownsRow_nil _ _ _ _
    kids := World.ownsRow_nil _ _ _ _
    u0 := fun k hk => Nat.lt_of_lt_of_le (h.lt k hk).2 hhi
    u1 := fun k h => by simp [Value.ownBlock] at h
    u2 := fun k h => by simp [Value.ownBlock] at h
    hp := hb
    hs := by simp
    hk := by simp
    pk := hpk
    sk := fun q hq => by simp at hq
    kk := fun q hq => by simp at hq }

theorem keyAt_get {ps : List PairD} {k : Nat} (h : k < ps.length) : keyAt ps k = ps[k].k := by simp [keyAt, h]

theorem halves_leaf (A0 A1 A2 : Option Addr) (c0 c1 c2 : Nat) (nd : NodeD) (k : Nat) (w : World) (hN : RdN w A0 c0 A1 c1 A2 c2 nd) (hk : nd.kids.length = 0) (h2 : k + 1 < nd.pairs.length) :
    Calls Try.prog 77 #[vN A0 c0 A1 c1 A2 c2 nd, .int .i64 (k + 1)] w fun e w' =>
      ∃ x y mid, e = .returned (vH x (halvesL nd (k + 1)) (halvesS nd (k + 1)) y (halvesR nd (k + 1))) ∧ x.own w' w.heap.size mid (halvesL nd (k + 1)) ∧ y.own w' mid w'.heap.size (halvesR nd (k + 1)) ∧ Below w.heap.size w w' ∧ w.heap.size ≤ mid := by
  have hp := hN.hp
  have hc0 := hN.hcp
  have HN := Lib.hid hN
  have HPK := Lib.hid hN.pk
  have hkk : ((nd.kids.length : Int) == 0) = true := by simp [hk]
  have HK := Lib.hid hk
  have HL : Hid (halvesL nd (k + 1) = ⟨nd.pairs.take (k + 1), [], []⟩) := Lib.hid (by simp [halvesL, hk])
  have HRR : Hid (halvesR nd (k + 1) = ⟨nd.pairs.drop (k + 1), [], []⟩) := Lib.hid (by simp [halvesR, hk])
  clear hk
  obtain ⟨ab, ao, rfl, hk0, hk1⟩ := pairs_at (HN.out.pairs) h2
  obtain ⟨ab', ao', he, hj0, hj1⟩ := pairs_at (HN.out.pairs) (show k < nd.pairs.length by omega)
  cases he
  have habl := World.block_lt_of_cell? _ _ hk0
  have hb1 := (HPK.out _ (List.getElem_mem h2)).1
  have hb2 := (HPK.out _ (List.getElem_mem (show k < nd.pairs.length by omega))).1
  have habl : ab < w.heap.size := habl
  have habl1 : ab < w.heap.size + 1 := by omega
  have habl2 : ab < w.heap.size + 1 + 1 := by omega
  clear hN
  go_enter Try.func77, Try.ntmps77
  go_wp2
  refine wp_region_grow (by kernel_rfl) (by kernel_rfl) ?_
  repeat (any_goals (first
    | go_big_quiet_step ((go_at_call 27; exact quiet_below (between_c _ _ _ hb2 hb1)))
    | quiet_step ((go_at_call 27; exact quiet_below (between_c _ _ _ hb2 hb1)))))
  refine wpQuiet_nil ?_
  intro w1 hb
  go_wp2
  have hS1 := hW_box hb
  have HF := Lib.hid (fun W (h : Box (w.heap.size + 1) 7 54 (hW w (.slice (some ⟨ab, ao, none⟩) nd.pairs.length c0) (.slice A1 nd.seps.length c1) (.slice A2 nd.kids.length c2)) W) => (hW_cells h).1)
  refine wp_region_sched (S := Box (w.heap.size + 1) 7 54 (hW w (.slice (some ⟨ab, ao, none⟩) nd.pairs.length c0) (.slice A1 nd.seps.length c1) (.slice A2 nd.kids.length c2)))
    [(0, true), (1, true), (2, true), (3, true), (4, true), (5, true), (6, true), (7, true), (10, true), (11, true), (12, true), (13, true), (8, false), (9, true), (14, false), (15, true), (16, true), (17, false)]
    (by kernel_rfl) (by kernel_rfl) (by kernel_rfl) (fun _ _ d _ _ h => by cases d <;> exact h) hS1.drew ?_
  repeat (apply sched_take; (exact rfl); rfl; (intro W hW; have q := HF.out W hW; go_simp; (try with_reducible rfl)); simp only [Act.put, List.setIfInBounds_toArray, List.set_cons_zero, List.set_cons_succ])
  apply sched_run; (exact rfl); rfl; intro K hK; go_simp
  refine (putP_none _ c0 nd.pairs _ (HN.out.pairs.below (hW_below rfl hS1.drew)) hc0 hp (k + 1) (nd.pairs.length - (k + 1)) _ _ (by omega) (by rw [IntWalk.i64_in _ (by omega)]; omega) (by omega) (halvesL nd (k + 1)).pairs (by rw [HL.out, List.drop_of_length_le (by omega), List.append_nil])).mono ?_
  rintro e w2 ⟨⟨B0, d0, rfl, hown2⟩, hb2⟩
  have hS2 := hS1.drew.step hb2
  have HO2 := Lib.hid hown2
  clear hown2 hS1
  refine hK.out _ _ hS2 (fun _ => ?_)
  clear hK K
  try simp only [Act.put, List.setIfInBounds_toArray, List.set_cons_zero, List.set_cons_succ]
  repeat (apply sched_take; (exact rfl); rfl; (intro W hW; have q := HF.out W hW; go_simp; (try with_reducible rfl)); simp only [Act.put, List.setIfInBounds_toArray, List.set_cons_zero, List.set_cons_succ])
  apply sched_run; (exact rfl); rfl; intro K hK; go_simp
  refine (putP_none _ c0 nd.pairs _ (HN.out.pairs.below (hW_below rfl hS2)) hc0 hp 0 (k + 1) _ _ rfl (by omega) (by omega) (halvesR nd (k + 1)).pairs (by rw [HRR.out]; simp)).mono ?_
  rintro e w3 ⟨⟨C0, e0, rfl, hown3⟩, hb3⟩
  have hS3 := hS2.step hb3
  have HO3 := Lib.hid hown3
  clear hown3
  refine hK.out _ _ hS3 (fun _ => ?_)
  clear hK K
  try simp only [Act.put, List.setIfInBounds_toArray, List.set_cons_zero, List.set_cons_succ]
  repeat (apply sched_take; (exact rfl); rfl; (intro W hW; have q := HF.out W hW; go_simp; (try with_reducible rfl)); simp only [Act.put, List.setIfInBounds_toArray, List.set_cons_zero, List.set_cons_succ])
  apply sched_run; (exact rfl); rfl; intro K hK
  refine wp_store_box hS3 54 (.tmp 4) (.tmp 44) rfl _ rfl rfl info54 rfl ?_ ?_
  · simp [Value.oneCell']
  refine hK.out _ _ (hS3.setRow _ rfl) (fun hS4 => ?_)
  clear hK K
  refine sched_done ?_
  go_wp2
  refine bodyPost_ret (results_cell_row rfl _ _ (w.heap.size + 1) 54 _ (0, 0) _ rfl (hS3.2.setRow _ rfl).2 Try.underlying54 rfl info54) rfl ?_
  have hS : halvesS nd (k + 1) = sepS nd.pairs[k].k nd.pairs[k + 1].k := by rw [halvesS, if_pos HK.out, Nat.add_sub_cancel, keyAt_get h2, keyAt_get (by omega)]
  have hg1 : w.heap.size + 1 < w1.heap.size := by have := hb.size; simp at this; omega
  have e1 : (halvesL nd (k + 1)).seps = [] := by rw [HL.out]
  have e2 : (halvesL nd (k + 1)).kids = [] := by rw [HL.out]
  have e3 : (halvesR nd (k + 1)).seps = [] := by rw [HRR.out]
  have e4 : (halvesR nd (k + 1)).kids = [] := by rw [HRR.out]
  have e5 : (halvesL nd (k + 1)).pairs = nd.pairs.take (k + 1) := by rw [HL.out]
  have e6 : (halvesR nd (k + 1)).pairs = nd.pairs.drop (k + 1) := by rw [HRR.out]
  refine ⟨⟨B0, d0, none, 0, none, 0⟩, ⟨C0, e0, none, 0, none, 0⟩, w2.heap.size, ret_eq (by rw [vH, hS, e1, e2, e3, e4]; rfl), ?_, ?_, hW_below rfl (hS3.setRow _ rfl), by have : w1.heap.size ≤ w2.heap.size := hb2.size; omega⟩
  · have hO2 := HO2.out
    rw [e5] at hO2
    have h1 := OwN.leaf hO2 (Nat.le_refl _) (by rw [List.length_take]; omega) (fun q hq => HPK.out q (List.mem_of_mem_take hq))
    rw [HL.out]
    exact ((h1.below hb3).setRow _ _ hg1).wide (by have : w.heap.size + 1 < w1.drew.heap.size := hg1; omega) (Nat.le_refl _)
  · have hO3 := HO3.out
    rw [e6] at hO3
    have h1 := OwN.leaf hO3 (Nat.le_refl _) (by rw [List.length_drop]; omega) (fun q hq => HPK.out q (List.mem_of_mem_drop hq))
    rw [HRR.out]
    exact (h1.setRow _ _ (by have : w1.heap.size ≤ w2.heap.size := hb2.size; omega)).wide (Nat.le_refl _) (by simp [World.setRow])

end Go.Proofs.Ytajkoeodabmgeaa
