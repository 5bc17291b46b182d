import Derived.Test.YtajkoeodabmgeaaH4
namespace Go.Proofs.Ytajkoeodabmgeaa
open Go.RowKit Go.Shelf
set_option maxHeartbeats 2000000
set_option maxRecDepth 100000
attribute [local go_sem] Oper.semAt_some

/-- The blocks below a bound, but for some, are as they were. -/
structure Kb (n₀ : Nat) (S : Nat → Prop) (w w' : World) : Prop where
  os : w'.os = w.os
  tape : w'.tape = w.tape
  output : w'.output = w.output
  size : w.heap.size ≤ w'.heap.size
  block : ∀ k, k < n₀ → ¬ S k → w'.heap[k]? = w.heap[k]?
theorem Kb.trans {n₀ : Nat} {S : Nat → Prop} {a b c : World} (h : Kb n₀ S a b) (k : Kb n₀ S b c) : Kb n₀ S a c :=
  ⟨k.os.trans h.os, k.tape.trans h.tape, k.output.trans h.output, Nat.le_trans h.size k.size, fun i hi hs => (k.block i hi hs).trans (h.block i hi hs)⟩
theorem Kb.of {n₀ : Nat} {S : Nat → Prop} {a b : World} (h : Below n₀ a b) : Kb n₀ S a b := ⟨h.os, h.tape, h.output, h.size, fun k hk _ => h.block k hk⟩
theorem Kb.setCell {n₀ : Nat} {S : Nat → Prop} (a : World) (g : Nat) (v : Value) (hg : S g) : Kb n₀ S a (a.setCell ⟨g, 0, none⟩ v) :=
  ⟨rfl, rfl, rfl, by simp, fun k _ hs => Below.heap_setCell a ⟨g, 0, none⟩ v k (fun e => hs (e ▸ hg))⟩
theorem Kb.row {n₀ : Nat} {S : Nat → Prop} {a b : World} (h : Kb n₀ S a b) {g : Nat} {o : Obj} (hg : a.heap[g]? = some o) (h1 : g < n₀) (h2 : ¬ S g) : b.heap[g]? = some o := (h.block g h1 h2).trans hg

theorem Oper.about_load {P : Program} {o : Oper} {w : World} {ρ : Operand → Value} (ty : TypeId) (x : Operand) (ho : o.op = .load ty x) : o.about P w ρ = none := by
  unfold Oper.about
  simp only [ho]

theorem wpListIn_load_row {F : Fence} {n : Nat} {P : Program} {ops : Array Oper} {rest : List Oper} {o : Oper} {a : Act} {w : World} {Q : Exit → Act → World → Prop} (hro : F.round = none) (hgd : o.guard = none) (ty : TypeId) (x : Operand) (ho : o.op = .load ty x)
    (g : Nat) (hx : a.eval x = .pointer (some ⟨g, 0, none⟩)) (t : TypeId) (cs : Array Value) (fr : Nat × Nat) (d : TypeDesc) (hg : w.heap[g]? = some (.cells cs t fr))
    (hu : P.underlying ty = some d) (hd : (match d with | .struct _ | .array _ _ => true | _ => false) = true) (hi : (P.info? ty).map (·.size) = some cs.size)
    (h : wpListIn F n P ops Q rest (a.put o.dst (.agg cs)) w) : wpListIn F n P ops Q (o :: rest) a w :=
  wpListIn_plain hgd fun K hK => by
    unfold Oper.wpIn
    refine ⟨fun f hf => (by rw [Oper.about_load ty x ho] at hf; cases hf), ?_⟩
    rw [hro, Oper.semAt_none]
    unfold execOp
    simp only [ho, hx, Instr.loadAt, Instr.sureAddr, Sem.run_bind, Sem.run_pure, Result.andThen_ok, run_loadVar_row w g t ty cs fr d hg hu hd hi]
    exact hK _ _ h

theorem putObj_row {w : World} {g D : Nat} {o o' : Obj} (h : w.heap[g]? = some o') (hne : g ≠ D) : (w.putObj D o).heap[g]? = some o' := (World.putObj_heap_other hne).trans h
theorem own_putObj {w : World} {lo hi D : Nat} {A0 A1 A2 : Option Addr} {c0 c1 c2 : Nat} {nd : NodeD} (h : OwN w lo hi A0 c0 A1 c1 A2 c2 nd) (o : Obj) (hD : D < lo ∨ hi ≤ D) : OwN (w.putObj D o) lo hi A0 c0 A1 c1 A2 c2 nd :=
  h.kept (S := fun k => k = D) ⟨rfl, rfl, rfl, by simp [World.putObj], fun k _ hs => World.putObj_heap_other hs⟩ (fun k h1 h2 h3 => by omega)
theorem below_putObj {B : Nat} {a w : World} (h : Below B a w) {D : Nat} (hD : B ≤ D) (o : Obj) : Below B a (w.putObj D o) :=
  h.trans ⟨rfl, rfl, rfl, by simp [World.putObj], fun k hk => World.putObj_heap_other (by omega)⟩

abbrev splitTmps (pg wd : Int) (A0 A1 A2 : Option Addr) (c0 c1 c2 : Nat) (nd : NodeD) (h m : Nat) (s9 s10 s25 s26 : Value) : Array Value :=
  #[vF pg wd, vN A0 c0 A1 c1 A2 c2 nd, .pointer (some ⟨h, 0, none⟩), .pointer (some ⟨h + 1, 0, none⟩), .pointer (some ⟨h + 1 + 1, 0, none⟩), .int .i64 0, .pointer (some ⟨h + 1 + 1 + 1, 0, none⟩),
    .pointer (some ⟨m, 0, none⟩), .pointer (some ⟨m + 1, 0, none⟩), s9, s10, undef, .agg zero7, vF pg wd, .bool true, .bool false, undef, vF pg wd, vN A0 c0 A1 c1 A2 c2 nd, .int .i64 0, .bool false, undef, vF pg wd, vN A0 c0 A1 c1 A2 c2 nd,
    .func (.func 73) #[] #[.pointer (some ⟨m + 1 + 1, 0, none⟩), .pointer (some ⟨m + 1 + 1 + 1, 0, none⟩)], s25, s26, undef, undef, undef, undef, undef, undef, undef, undef, undef, undef, undef, undef, undef, undef, undef, undef, undef, undef, undef, undef]

theorem split_main (pg wd : Int) (A0 A1 A2 : Option Addr) (c0 c1 c2 : Nat) (nd : NodeD) (w : World) (hN : RdN w A0 c0 A1 c1 A2 c2 nd) (hr : right pg wd = true) (hc : checkE pg wd nd = 0) :
    Calls Try.prog 32 #[vF pg wd, vN A0 c0 A1 c1 A2 c2 nd] w fun e w' =>
      ∃ x y mid, e = .returned (.tuple #[vH x (splitL pg wd nd) (splitS pg wd nd) y (splitR pg wd nd), .int .i64 (splitE pg wd nd)]) ∧
        VH.own x w' w.heap.size mid (splitL pg wd nd) ∧ VH.own y w' mid w'.heap.size (splitR pg wd nd) ∧ Below w.heap.size w w' ∧ w.heap.size ≤ mid := by
  have HR := Lib.hid hr
  have HN := Lib.hid hN
  have HC := Lib.hid hc
  clear hr hN hc
  refine (callsIn_wide (n := 9)).1 ?_
  refine callsIn_of_wp_marks Try.func32 rfl trivial ?_ rfl
  simp only [Try.ntmps32, List.size_toArray, List.length_cons, List.length_nil, Nat.reduceAdd, Nat.reduceSub, Array.replicate_succ, Array.replicate_zero, List.push_toArray, List.append_toArray, List.nil_append, List.cons_append]
  gi_wp2_with (first
    | (refine ⟨trivial, ?_⟩; gi_at_call 61; refine (callsIn_wide.2 (frame_v pg wd _ _ HR.out)).mono ?_; rintro e w1 ⟨rfl, hb⟩; have hBB := split_first hb; clear hb; obtain ⟨⟨q0, q1⟩, ⟨q2, q3, q4⟩⟩ := split_boxes hBB; have q7 := split_lt hBB)
    | (refine ⟨trivial, ?_⟩; gi_at_call 74; refine (callsIn_wide.2 (check_v pg wd A0 A1 A2 c0 c1 c2 nd _ (HN.out.below (split_below hBB)) _ HC.out)).mono ?_; rintro e w2 ⟨rfl, hb⟩; have hBB2 := split_next hBB hb; clear hb q0 q1 q2 q3 q4 q7 hBB; obtain ⟨⟨q0, q1⟩, ⟨q2, q3, q4⟩⟩ := split_boxes hBB2; have q7 := split_lt hBB2; have q8 : w.heap.size < w2.heap.size := (by omega); have q9 : w.heap.size + 1 < w2.heap.size := (by omega); have q10 : w.heap.size < w2.heap.size + 1 := (by omega); have q11 : w.heap.size + 1 < w2.heap.size + 1 := (by omega))
    | (refine ⟨trivial, ?_⟩; gi_at_call 31; refine (callsIn_wide.2 (cuts_c pg wd A0 A1 A2 c0 c1 c2 nd _)).mono ?_; rintro e w3 ⟨rfl, hw3⟩))
  clear q0 q1 q2 q3 q4 q10 q11
  rw [← hw3]
  have b7 : Boxed w3 w2.heap.size 3 (.int .i64 0) := by
    rw [hw3]; exact (((Boxed.new w2 3 (.int .i64 0)).alloc _).alloc _).alloc _
  have b8 : Boxed w3 (w2.heap.size + 1) 3 (.int .i64 0) := by
    have := ((Boxed.new (w2.alloc (.cells #[.int .i64 0] 3)) 3 (.int .i64 0)).alloc (.cells #[.int .i64 pg, .int .i64 wd] 24)).alloc (.cells #[.slice A0 nd.pairs.length c0, .slice A1 nd.seps.length c1, .slice A2 nd.kids.length c2] 29)
    rw [hw3]; simpa using this
  have hf : w3.heap[w2.heap.size + 1 + 1]? = some (.cells #[.int .i64 pg, .int .i64 wd] 24 (0, 0)) := by
    rw [hw3]; exact (Below.heap_alloc _ _ _ (by simp)).trans (alloc3_at w2 _ _ _)
  have hnn : w3.heap[w2.heap.size + 1 + 1 + 1]? = some (.cells #[.slice A0 nd.pairs.length c0, .slice A1 nd.seps.length c1, .slice A2 nd.kids.length c2] 29 (0, 0)) := by
    rw [hw3]; exact alloc4_at w2 _ _ _ _
  have hB3 : Below w2.heap.size w2 w3 := by
    rw [hw3]; exact ((((Below.refl _ _).alloc (Nat.le_refl _) _).alloc (by simp) _).alloc (by simp <;> omega) _).alloc (by simp <;> omega) _
  have hsz3 : w3.heap.size = w2.heap.size + 4 := by rw [hw3]; simp
  clear hw3
  have HRD := Lib.hid (HN.out.below (split_below hBB2))
  have hKN : ∀ W, Kb (w2.heap.size + 4) (fun k => k = w2.heap.size ∨ k = w2.heap.size + 1) w3 W → RdN W A0 c0 A1 c1 A2 c2 nd := fun W h =>
    HRD.out.below (hB3.trans ⟨h.os, h.tape, h.output, h.size, fun k hk => h.block k (by omega) (by omega)⟩)
  have hKF : ∀ W, Kb (w2.heap.size + 4) (fun k => k = w2.heap.size ∨ k = w2.heap.size + 1) w3 W → W.cell? ⟨w2.heap.size + 1 + 1, 0, none⟩ = some (.int .i64 pg) ∧ W.cell? ⟨w2.heap.size + 1 + 1, 1, none⟩ = some (.int .i64 wd) := fun W h => by
    have := h.row hf (by omega) (by omega)
    exact ⟨cell_of_row _ _ 0 _ _ _ this, cell_of_row _ _ 1 _ _ _ this⟩
  have hKC : ∀ W, Kb (w2.heap.size + 4) (fun k => k = w2.heap.size ∨ k = w2.heap.size + 1) w3 W → W.cell? ⟨w2.heap.size + 1 + 1 + 1, 0, none⟩ = some (.slice A0 nd.pairs.length c0) ∧ W.cell? ⟨w2.heap.size + 1 + 1 + 1, 1, none⟩ = some (.slice A1 nd.seps.length c1) ∧ W.cell? ⟨w2.heap.size + 1 + 1 + 1, 2, none⟩ = some (.slice A2 nd.kids.length c2) := fun W h => by
    have := h.row hnn (by omega) (by omega)
    exact ⟨cell_of_row _ _ 0 _ _ _ this, cell_of_row _ _ 1 _ _ _ this, cell_of_row _ _ 2 _ _ _ this⟩
  have hst := cuts_stops 8 (by omega) pg wd A0 A1 A2 c0 c1 c2 nd (w2.heap.size + 1 + 1) (w2.heap.size + 1 + 1 + 1) (w2.heap.size + 4) w3 (by omega) (Kb (w2.heap.size + 4) (fun k => k = w2.heap.size ∨ k = w2.heap.size + 1)) Kb.trans Kb.of Kb.size hKN hKF hKC
  clear hKN hKF hKC hf hnn
  refine wpIn_rangeFunc_ownH rfl (by omega) (gf := 73) (lb := #[.pointer (some ⟨w2.heap.size + 1 + 1, 0, none⟩), .pointer (some ⟨w2.heap.size + 1 + 1 + 1, 0, none⟩)]) rfl trivial (enters_of Try.func73 (by kernel_rfl) rfl)
    hst Kb.trans (fun W l o o' hl h1 h2 h3 => Kb.of (belowK_b (w := w3) (by omega) W l o o' hl h1 h2 h3)) (Below.refl _ _) (fun _ => rfl)
    (fun pre W => (Boxed W w2.heap.size 3 (.int .i64 (bestOf pg wd nd pre).1) ∧ Boxed W (w2.heap.size + 1) 3 (.int .i64 (bestOf pg wd nd pre).2)) ∧ Below w2.heap.size w3 W)
    (fun _ _ _ => False)
    (OwnFrom.and (OwnFrom.and (Own.from (boxed_own _ _ _) _) (Own.from (boxed_own _ _ _) _)) (ownFrom_below (by omega) (by omega)))
    (fun _ _ _ _ _ hs _ _ => hs)
    ⟨⟨b7, b8⟩, Below.refl _ _⟩
    (fun x a' W => ∃ Bx, w2.heap.size + 1 < Bx ∧ W.heap[Bx]? = some (.cells #[.int .i64 (sizeE pg wd (halvesL nd x)), .int .i64 (sizeE pg wd (halvesR nd x))] 49 (0, 0)) ∧
      a' = { tmps := splitTmps pg wd A0 A1 A2 c0 c1 c2 nd w.heap.size w2.heap.size (.int .i64 x) (.pointer (some ⟨Bx, 0, none⟩)) (.int .i64 x) (.agg #[.int .i64 (sizeE pg wd (halvesL nd x)), .int .i64 (sizeE pg wd (halvesR nd x))]), defers := [] })
    (fun x a' _ X Y row hs hg hr => by
      obtain ⟨Bx, h1, h2, h3⟩ := hs
      refine ⟨Bx, h1, ?_, h3⟩
      refine (hg.block Bx (Array.getElem?_eq_some_iff.1 h2).1 (fun e => ?_)).trans h2
      obtain ⟨_, o, ho, hc⟩ := hr Bx e.symm
      rw [h2] at ho
      cases ho
      cases hc)
    ?assign ?body ?done ?stop
  case assign =>
    rintro l pre x W K ⟨⟨bS1, bB1⟩, hB1⟩ hK
    have hi49 : (Try.prog.info? 49).map (·.size) = some 2 := by kernel_rfl
    dsimp only [encCut]
    gi_wp2
    have hl := bB1.lt
    have hz := hB1.size
    exact hK _ _ ((KeepsOthers.alloc _ _).from _) (Kb.of ((Below.refl _ W).alloc (by omega) _)) ⟨⟨bS1.alloc _, bB1.alloc _⟩, hB1.alloc (by omega) _⟩ ⟨W.heap.size, by omega, heap_alloc_new _ _, rfl⟩
  case body =>
    rintro l pre x a' W hl ⟨r, hr⟩ ⟨⟨bS1, bB1⟩, hB1⟩ ⟨Bx, hBx, bX, rfl⟩ hlt
    have c7 := bS1.cell
    have f7 := bS1.frozen
    have c8 := bB1.cell
    have f8 := bB1.frozen
    have x0 := cell_of_row _ _ 0 _ _ _ bX
    have x1 := cell_of_row _ _ 1 _ _ _ bX
    simp only [List.getElem?_toArray, List.getElem?_cons_zero, List.getElem?_cons_succ] at x0 x1
    have hne : w2.heap.size ≠ w2.heap.size + 1 := by omega
    have hy : ∀ v, v = max (sizeE pg wd (halvesL nd x)) (sizeE pg wd (halvesR nd x)) → ((bestOf pg wd nd pre).1 = 0 ∨ v < (bestOf pg wd nd pre).2) → bestOf pg wd nd (pre ++ [x]) = (x, v) := by
      rintro v rfl h; rw [bestOf_snoc, bestStep, if_pos h]
    have hn : ∀ v, v = max (sizeE pg wd (halvesL nd x)) (sizeE pg wd (halvesR nd x)) → ¬ ((bestOf pg wd nd pre).1 = 0 ∨ v < (bestOf pg wd nd pre).2) → bestOf pg wd nd (pre ++ [x]) = bestOf pg wd nd pre := by
      rintro v rfl h; rw [bestOf_snoc, bestStep, if_neg h]
    generalize hb : bestOf pg wd nd pre = b at *
    generalize sizeE pg wd (halvesL nd x) = L at *
    generalize sizeE pg wd (halvesR nd x) = R at *
    obtain ⟨b1, b2⟩ := b
    dsimp only at *
    clear hb
    rcases Int.lt_or_le L R with hLR | hLR
    · have hm : R = max L R := by omega
      by_cases h1 : b1 = 0
      · have hq := Lib.hid (hy R hm (.inl h1))
        have hb1 : ((b1 : Int) == 0) = true := by simp [h1]
        clear hy hn h1 hm
        gi_wp2
        exact ⟨((KeepsOthers.setCell _ _ _).trans (KeepsOthers.setCell _ _ _)).from _, (Kb.setCell W w2.heap.size _ (.inl rfl)).trans (Kb.setCell _ (w2.heap.size + 1) _ (.inr rfl)), ⟨by rw [hq.out]; exact (bS1.set _).other (by omega) _, by rw [hq.out]; exact (bB1.other (by omega) _).set _⟩,
            (hB1.setCell (p := ⟨w2.heap.size, 0, none⟩) (Nat.le_refl _) _).setCell (p := ⟨w2.heap.size + 1, 0, none⟩) (by simp) _⟩
      · have hb1 : ((b1 : Int) == 0) = false := by rw [beq_eq_false_iff_ne]; omega
        by_cases h2 : R < b2
        · have hq := Lib.hid (hy R hm (.inr h2))
          clear hy hn h1 hm
          gi_wp2
          exact ⟨((KeepsOthers.setCell _ _ _).trans (KeepsOthers.setCell _ _ _)).from _, (Kb.setCell W w2.heap.size _ (.inl rfl)).trans (Kb.setCell _ (w2.heap.size + 1) _ (.inr rfl)), ⟨by rw [hq.out]; exact (bS1.set _).other (by omega) _, by rw [hq.out]; exact (bB1.other (by omega) _).set _⟩,
            (hB1.setCell (p := ⟨w2.heap.size, 0, none⟩) (Nat.le_refl _) _).setCell (p := ⟨w2.heap.size + 1, 0, none⟩) (by simp) _⟩
        · have hq := Lib.hid (hn R hm (by omega))
          have h2' : b2 ≤ R := by omega
          clear hy hn h1 hm h2
          gi_wp2
          exact ⟨(KeepsOthers.refl _).from _, Kb.of (Below.refl _ _), ⟨by rw [hq.out]; exact bS1, by rw [hq.out]; exact bB1⟩, hB1⟩
    · have hm : L = max L R := by omega
      by_cases h1 : b1 = 0
      · have hq := Lib.hid (hy L hm (.inl h1))
        have hb1 : ((b1 : Int) == 0) = true := by simp [h1]
        clear hy hn h1 hm
        gi_wp2
        exact ⟨((KeepsOthers.setCell _ _ _).trans (KeepsOthers.setCell _ _ _)).from _, (Kb.setCell W w2.heap.size _ (.inl rfl)).trans (Kb.setCell _ (w2.heap.size + 1) _ (.inr rfl)), ⟨by rw [hq.out]; exact (bS1.set _).other (by omega) _, by rw [hq.out]; exact (bB1.other (by omega) _).set _⟩,
            (hB1.setCell (p := ⟨w2.heap.size, 0, none⟩) (Nat.le_refl _) _).setCell (p := ⟨w2.heap.size + 1, 0, none⟩) (by simp) _⟩
      · have hb1 : ((b1 : Int) == 0) = false := by rw [beq_eq_false_iff_ne]; omega
        by_cases h2 : L < b2
        · have hq := Lib.hid (hy L hm (.inr h2))
          clear hy hn h1 hm
          gi_wp2
          exact ⟨((KeepsOthers.setCell _ _ _).trans (KeepsOthers.setCell _ _ _)).from _, (Kb.setCell W w2.heap.size _ (.inl rfl)).trans (Kb.setCell _ (w2.heap.size + 1) _ (.inr rfl)), ⟨by rw [hq.out]; exact (bS1.set _).other (by omega) _, by rw [hq.out]; exact (bB1.other (by omega) _).set _⟩,
            (hB1.setCell (p := ⟨w2.heap.size, 0, none⟩) (Nat.le_refl _) _).setCell (p := ⟨w2.heap.size + 1, 0, none⟩) (by simp) _⟩
        · have hq := Lib.hid (hn L hm (by omega))
          have h2' : b2 ≤ L := by omega
          clear hy hn h1 hm h2
          gi_wp2
          exact ⟨(KeepsOthers.refl _).from _, Kb.of (Below.refl _ _), ⟨by rw [hq.out]; exact bS1, by rw [hq.out]; exact bB1⟩, hB1⟩
  case done =>
    rintro D xs W hD rfl ⟨⟨bS1, bB1⟩, hB1⟩ hK
    have c7 := bS1.cell
    have hBB3 := hBB2.trans ((hB3.trans hB1).mono (by omega))
    obtain ⟨⟨q0, q1⟩, ⟨q2, q3, q4⟩⟩ := split_boxes hBB3
    have HG := Lib.hid (split_row hBB3)
    have HZ := Lib.hid (split_zero hBB3)
    have hDW : D < W.heap.size := (Array.getElem?_eq_some_iff.1 hK).1
    have hsp : splitAt' pg wd nd = (bestOf pg wd nd (places pg wd nd)).1 := rfl
    clear hst bS1 bB1 b7 b8
    rw [← hsp] at c7
    clear hsp
    by_cases h0 : splitAt' pg wd nd = 0
    · have hb0 : ((splitAt' pg wd nd : Int) == 0) = true := by simp [h0]
      have hE : splitE pg wd nd = 82 := by simp [splitE, HR.out, HC.out, h0]
      have HE := Lib.hid hE
      have HK := Lib.hid hK
      clear h0 hE hK
      gi_wp2_with (first
        | (refine wpListIn_load_row rfl rfl 54 (.tmp 6) rfl (w.heap.size + 1 + 1 + 1) rfl 54 zero7 (0, 0) _ HZ.out Try.underlying54 rfl info54 ?_)
        | (refine wpListIn_store_row rfl rfl 54 (.tmp 4) (.tmp 43) rfl (w.heap.size + 1 + 1) zero7 rfl rfl 54 _ HG.out info54 rfl zero7_one ?_))
      refine ⟨by simp, .inl ⟨_, _, rfl, run_takeDeferred ((setRow_other _ _ _ _ (by omega)).trans HK.out), ?_⟩⟩
      refine ⟨_, results_ct rfl _ _ (w.heap.size + 1 + 1) 54 zero7 (0, 0) _ rfl (putObj_row (setRow_block _ _ _ _ _ _ HG.out) (by omega)) Try.underlying54 rfl info54, ?_⟩
      exact split_err w _ pg wd nd 82 HE.out (by decide) (below_putObj (below_setRow (split_below hBB3) (by omega) _) (by omega) _)
    · have hb0 : ((splitAt' pg wd nd : Int) == 0) = false := by rw [beq_eq_false_iff_ne]; omega
      have hE : splitE pg wd nd = 0 := by simp [splitE, HR.out, HC.out, h0]
      have hok := splitAt_ok h0
      have HE := Lib.hid hE
      have HK := Lib.hid hK
      have HOK := Lib.hid hok
      have HRW := Lib.hid (HN.out.below (split_below hBB3))
      clear h0 hE hK hok
      gi_wp2_with (first
        | (refine ⟨trivial, ?_⟩; gi_at_call 77; refine (callsIn_wide.2 (halves_c A0 A1 A2 c0 c1 c2 nd _ _ HRW.out HOK.out)).mono ?_; rintro e w5 ⟨x, y, mid, rfl, hx, hy, hb5, hmid⟩; have hBB5 := split_next hBB3 hb5; have HG5 := Lib.hid (split_row hBB5); have HX := Lib.hid hx; have HY := Lib.hid hy; clear hx hy)
        | (refine wpListIn_store_row rfl rfl 54 (.tmp 4) (.tmp 46) rfl (w.heap.size + 1 + 1) #[.slice x.A0 (halvesL nd (splitAt' pg wd nd)).pairs.length x.c0, .slice x.A1 (halvesL nd (splitAt' pg wd nd)).seps.length x.c1, .slice x.A2 (halvesL nd (splitAt' pg wd nd)).kids.length x.c2, .string (halvesS nd (splitAt' pg wd nd)), .slice y.A0 (halvesR nd (splitAt' pg wd nd)).pairs.length y.c0, .slice y.A1 (halvesR nd (splitAt' pg wd nd)).seps.length y.c1, .slice y.A2 (halvesR nd (splitAt' pg wd nd)).kids.length y.c2] rfl rfl 54 _ HG5.out info54 rfl (own7 x y _ _ _) ?_))
      have hDK : w5.heap[D]? = some (.deferred (some [])) := (hb5.block D hDW).trans HK.out
      have hbs := hb5.size
      refine ⟨by simp, .inl ⟨_, _, rfl, run_takeDeferred ((setRow_other _ _ _ _ (by omega)).trans hDK), ?_⟩⟩
      refine ⟨_, results_ct rfl _ _ (w.heap.size + 1 + 1) 54 #[.slice x.A0 (halvesL nd (splitAt' pg wd nd)).pairs.length x.c0, .slice x.A1 (halvesL nd (splitAt' pg wd nd)).seps.length x.c1, .slice x.A2 (halvesL nd (splitAt' pg wd nd)).kids.length x.c2, .string (halvesS nd (splitAt' pg wd nd)), .slice y.A0 (halvesR nd (splitAt' pg wd nd)).pairs.length y.c0, .slice y.A1 (halvesR nd (splitAt' pg wd nd)).seps.length y.c1, .slice y.A2 (halvesR nd (splitAt' pg wd nd)).kids.length y.c2] (0, 0) _ rfl (putObj_row (setRow_block _ _ _ _ _ _ HG5.out) (by omega)) Try.underlying54 rfl info54, ?_⟩
      have e1 : splitL pg wd nd = halvesL nd (splitAt' pg wd nd) := by simp [splitL, HE.out]
      have e2 : splitR pg wd nd = halvesR nd (splitAt' pg wd nd) := by simp [splitR, HE.out]
      have e3 : splitS pg wd nd = halvesS nd (splitAt' pg wd nd) := by simp [splitS, HE.out]
      rw [e1, e2, e3, HE.out]
      refine ⟨x, y, mid, rfl, ?_, ?_, below_putObj (below_setRow (split_below hBB5) (by omega) _) (by omega) _, by omega⟩
      · exact (own_putObj (OwN.setRow HX.out _ _ (by omega)) _ (by left; omega)).wide (by omega) (Nat.le_refl _)
      · exact (own_putObj (OwN.setRow HY.out _ _ (by omega)) _ (by left; omega)).wide (Nat.le_refl _) (by simp [World.setRow, World.putObj])
  case stop =>
    rintro D c pre W _ _ h _
    exact h.elim

theorem split_c (pg wd : Int) (A0 A1 A2 : Option Addr) (c0 c1 c2 : Nat) (nd : NodeD) (w : World) (hN : RdN w A0 c0 A1 c1 A2 c2 nd) :
    Calls Try.prog 32 #[vF pg wd, vN A0 c0 A1 c1 A2 c2 nd] w fun e w' =>
      ∃ x y mid, e = .returned (.tuple #[vH x (splitL pg wd nd) (splitS pg wd nd) y (splitR pg wd nd), .int .i64 (splitE pg wd nd)]) ∧
        VH.own x w' w.heap.size mid (splitL pg wd nd) ∧ VH.own y w' mid w'.heap.size (splitR pg wd nd) ∧ Below w.heap.size w w' ∧ w.heap.size ≤ mid := by
  cases hr : right pg wd with
  | false => exact split_wrong pg wd A0 A1 A2 c0 c1 c2 nd w hr
  | true =>
    by_cases hc : checkE pg wd nd = 0
    · exact split_main pg wd A0 A1 A2 c0 c1 c2 nd w hN hr hc
    · exact split_unshaped pg wd A0 A1 A2 c0 c1 c2 nd w hN hr hc

end Go.Proofs.Ytajkoeodabmgeaa
