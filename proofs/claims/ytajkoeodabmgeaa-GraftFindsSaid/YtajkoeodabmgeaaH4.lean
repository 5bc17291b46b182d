import Derived.Test.YtajkoeodabmgeaaH3
namespace Go.Proofs.Ytajkoeodabmgeaa
open Go.RowKit Go.Shelf
set_option maxHeartbeats 2000000
set_option maxRecDepth 100000

/-- One cut more: the best so far. -/
def bestStep (pg wd : Int) (nd : NodeD) (b : Nat × Int) (k : Nat) : Nat × Int :=
  if b.1 = 0 ∨ max (sizeE pg wd (halvesL nd k)) (sizeE pg wd (halvesR nd k)) < b.2 then (k, max (sizeE pg wd (halvesL nd k)) (sizeE pg wd (halvesR nd k))) else b
def bestOf (pg wd : Int) (nd : NodeD) (l : List Nat) : Nat × Int := l.foldl (bestStep pg wd nd) (0, 0)
theorem bestOf_snoc (pg wd : Int) (nd : NodeD) (l : List Nat) (k : Nat) : bestOf pg wd nd (l ++ [k]) = bestStep pg wd nd (bestOf pg wd nd l) k := by simp [bestOf]
def splitAt' (pg wd : Int) (nd : NodeD) : Nat := (bestOf pg wd nd (places pg wd nd)).1
def splitE (pg wd : Int) (nd : NodeD) : Int := if right pg wd then (if checkE pg wd nd = 0 then (if splitAt' pg wd nd = 0 then 82 else 0) else 80) else 2
def splitL (pg wd : Int) (nd : NodeD) : NodeD := if splitE pg wd nd = 0 then halvesL nd (splitAt' pg wd nd) else noN
def splitR (pg wd : Int) (nd : NodeD) : NodeD := if splitE pg wd nd = 0 then halvesR nd (splitAt' pg wd nd) else noN
def splitS (pg wd : Int) (nd : NodeD) : ByteArray := if splitE pg wd nd = 0 then halvesS nd (splitAt' pg wd nd) else ⟨#[]⟩

theorem bestOf_mem (pg wd : Int) (nd : NodeD) (l : List Nat) : (bestOf pg wd nd l).1 = 0 ∨ (bestOf pg wd nd l).1 ∈ l := by
  have h : ∀ (l : List Nat) (b : Nat × Int), (l.foldl (bestStep pg wd nd) b).1 = b.1 ∨ (l.foldl (bestStep pg wd nd) b).1 ∈ l := by
    intro l
    induction l with
    | nil => intro b; exact .inl rfl
    | cons k l ih =>
      intro b
      rw [List.foldl_cons]
      rcases ih (bestStep pg wd nd b k) with h | h
      · rw [h]
        unfold bestStep
        split
        · exact .inr (List.mem_cons_self ..)
        · exact .inl rfl
      · exact .inr (List.mem_cons_of_mem _ h)
  exact h l (0, 0)

theorem splitAt_ok {pg wd : Int} {nd : NodeD} (h : splitAt' pg wd nd ≠ 0) : cutOk nd (splitAt' pg wd nd) := by
  have h1 := (bestOf_mem pg wd nd (places pg wd nd)).resolve_left h
  unfold splitAt'
  generalize (bestOf pg wd nd (places pg wd nd)).1 = K at *
  unfold places at h1
  split at h1
  · rename_i hc
    obtain ⟨j, hj, rfl⟩ := List.mem_map.1 h1
    exact shaped_cut (checkE_zero hc).2 j (List.mem_range.1 hj)
  · cases h1

abbrev splitW (w : World) (a b c d e : Value) : World :=
  (((w.alloc (.cells #[a, b] 24)).alloc (.cells #[c, d, e] 29)).alloc (.cells zero7 54)).alloc (.cells zero7 54)

theorem split_row {w w1 : World} {a b c d e : Value} (h : Below (w.heap.size + 1 + 1 + 1 + 1) (splitW w a b c d e) w1) :
    w1.heap[w.heap.size + 1 + 1]? = some (.cells zero7 54 (0, 0)) := (h.block _ (by omega)).trans ((Below.heap_alloc _ _ _ (by simp)).trans (alloc3_at w _ _ _))
theorem split_lt {w w1 : World} {a b c d e : Value} (h : Below (w.heap.size + 1 + 1 + 1 + 1) (splitW w a b c d e) w1) : w.heap.size + 1 + 1 + 1 < w1.heap.size := by
  have := h.size
  simp only [World.size_alloc, splitW] at this
  omega
theorem split_boxes {w w1 : World} {a b c d e : Value} (h : Below (w.heap.size + 1 + 1 + 1 + 1) (splitW w a b c d e) w1) :
    (w1.cell? ⟨w.heap.size, 0, none⟩ = some a ∧ w1.cell? ⟨w.heap.size, 1, none⟩ = some b) ∧
    (w1.cell? ⟨w.heap.size + 1, 0, none⟩ = some c ∧ w1.cell? ⟨w.heap.size + 1, 1, none⟩ = some d ∧ w1.cell? ⟨w.heap.size + 1, 2, none⟩ = some e) := by
  have h0 : w1.heap[w.heap.size]? = some (.cells #[a, b] 24 (0, 0)) := (h.block _ (by omega)).trans ((Below.heap_alloc _ _ _ (by simp <;> omega)).trans (alloc3_0 w _ _ _))
  have h1 : w1.heap[w.heap.size + 1]? = some (.cells #[c, d, e] 29 (0, 0)) := (h.block _ (by omega)).trans ((Below.heap_alloc _ _ _ (by simp <;> omega)).trans (alloc3_1 w _ _ _))
  exact ⟨⟨cell_of_row _ _ 0 _ _ _ h0, cell_of_row _ _ 1 _ _ _ h0⟩, ⟨cell_of_row _ _ 0 _ _ _ h1, cell_of_row _ _ 1 _ _ _ h1, cell_of_row _ _ 2 _ _ _ h1⟩⟩
theorem split_zero {w w1 : World} {a b c d e : Value} (h : Below (w.heap.size + 1 + 1 + 1 + 1) (splitW w a b c d e) w1) :
    w1.heap[w.heap.size + 1 + 1 + 1]? = some (.cells zero7 54 (0, 0)) := (h.block _ (by omega)).trans (alloc4_at w _ _ _ _)
theorem split_base {w : World} {a b c d e : Value} : Below w.heap.size w (splitW w a b c d e) :=
  (((((Below.refl _ _).alloc (Nat.le_refl _) _).alloc (by simp) _).alloc (by simp <;> omega) _).alloc (by simp <;> omega) _)
theorem split_first {w w1 : World} {a b c d e : Value} (hb : Below (splitW w a b c d e).heap.size (splitW w a b c d e) w1) : Below (w.heap.size + 1 + 1 + 1 + 1) (splitW w a b c d e) w1 := hb.mono (by simp [splitW])
theorem split_next {w w1 w2 : World} {a b c d e : Value} (h : Below (w.heap.size + 1 + 1 + 1 + 1) (splitW w a b c d e) w1) (hb : Below w1.heap.size w1 w2) : Below (w.heap.size + 1 + 1 + 1 + 1) (splitW w a b c d e) w2 :=
  h.trans (hb.mono (split_lt h))
theorem split_below {w w1 : World} {a b c d e : Value} (h : Below (w.heap.size + 1 + 1 + 1 + 1) (splitW w a b c d e) w1) : Below w.heap.size w w1 := split_base.trans (h.mono (by omega))

theorem zero7_one : (zero7 : Array Value).all (·.oneCell') = true := by simp [Value.oneCell']

theorem split_err (w w1 : World) (pg wd : Int) (nd : NodeD) (E : Int) (hE : splitE pg wd nd = E) (hne : E ≠ 0) (hb : Below w.heap.size w w1) :
    ∃ x y mid, Ending.returned (.tuple #[.agg zero7, .int .i64 E]) = .returned (.tuple #[vH x (splitL pg wd nd) (splitS pg wd nd) y (splitR pg wd nd), .int .i64 (splitE pg wd nd)]) ∧
      VH.own x w1 w.heap.size mid (splitL pg wd nd) ∧ VH.own y w1 mid w1.heap.size (splitR pg wd nd) ∧ Below w.heap.size w w1 ∧ w.heap.size ≤ mid := by
  refine ⟨⟨none, 0, none, 0, none, 0⟩, ⟨none, 0, none, 0, none, 0⟩, w.heap.size, ?_, ?_, ?_, hb, Nat.le_refl _⟩
  · simp [splitL, splitR, splitS, hE, hne, noN, zero7]
  · simp only [splitL, hE, if_neg hne]; exact own_noN _ _ _
  · simp only [splitR, hE, if_neg hne]; exact own_noN _ _ _

theorem split_wrong (pg wd : Int) (A0 A1 A2 : Option Addr) (c0 c1 c2 : Nat) (nd : NodeD) (w : World) (hr : right pg wd = false) :
    Calls Try.prog 32 #[vF pg wd, vN A0 c0 A1 c1 A2 c2 nd] w fun e w' =>
      ∃ x y mid, e = .returned (.tuple #[vH x (splitL pg wd nd) (splitS pg wd nd) y (splitR pg wd nd), .int .i64 (splitE pg wd nd)]) ∧
        VH.own x w' w.heap.size mid (splitL pg wd nd) ∧ VH.own y w' mid w'.heap.size (splitR pg wd nd) ∧ Below w.heap.size w w' ∧ w.heap.size ≤ mid := by
  have hE : splitE pg wd nd = 2 := by simp [splitE, hr]
  have HE := Lib.hid hE
  have HR := Lib.hid hr
  clear hE hr
  go_enter Try.func32, Try.ntmps32
  go_wp2_with (first
    | (go_at_call 61; refine (frame_v pg wd _ _ HR.out).mono ?_; rintro e w1 ⟨rfl, hb⟩; have hBB := split_first hb; clear hb; obtain ⟨⟨q0, q1⟩, ⟨q2, q3, q4⟩⟩ := split_boxes hBB; have q7 := split_lt hBB; have HG := Lib.hid (split_row hBB); have HZ := Lib.hid (split_zero hBB))
    | (refine wpList_load_row rfl 54 (.tmp 6) rfl (w.heap.size + 1 + 1 + 1) rfl 54 zero7 (0, 0) _ HZ.out Try.underlying54 rfl info54 ?_)
    | (refine wpList_store_row rfl 54 (.tmp 4) (.tmp 16) rfl (w.heap.size + 1 + 1) zero7 rfl rfl 54 _ HG.out info54 rfl zero7_one ?_))
  refine bodyPost_ret (results_ct rfl _ _ (w.heap.size + 1 + 1) 54 zero7 (0, 0) _ rfl (setRow_block _ _ _ _ _ _ HG.out) Try.underlying54 rfl info54) rfl ?_
  exact split_err w _ pg wd nd 2 HE.out (by decide) (below_setRow (split_below hBB) (by omega) _)

theorem split_unshaped (pg wd : Int) (A0 A1 A2 : Option Addr) (c0 c1 c2 : Nat) (nd : NodeD) (w : World) (hN : RdN w A0 c0 A1 c1 A2 c2 nd) (hr : right pg wd = true) (hc : checkE pg wd nd ≠ 0) :
    Calls Try.prog 32 #[vF pg wd, vN A0 c0 A1 c1 A2 c2 nd] w fun e w' =>
      ∃ x y mid, e = .returned (.tuple #[vH x (splitL pg wd nd) (splitS pg wd nd) y (splitR pg wd nd), .int .i64 (splitE pg wd nd)]) ∧
        VH.own x w' w.heap.size mid (splitL pg wd nd) ∧ VH.own y w' mid w'.heap.size (splitR pg wd nd) ∧ Below w.heap.size w w' ∧ w.heap.size ≤ mid := by
  have hE : splitE pg wd nd = 80 := by simp [splitE, hr, hc]
  have HE := Lib.hid hE
  have HR := Lib.hid hr
  have HN := Lib.hid hN
  have hce : (checkE pg wd nd != 0) = true := by simpa using hc
  clear hE hr hN hc
  go_enter Try.func32, Try.ntmps32
  go_wp2_with (first
    | (go_at_call 61; refine (frame_v pg wd _ _ HR.out).mono ?_; rintro e w1 ⟨rfl, hb⟩; have hBB := split_first hb; clear hb; obtain ⟨⟨q0, q1⟩, ⟨q2, q3, q4⟩⟩ := split_boxes hBB; have q7 := split_lt hBB)
    | (go_at_call 74; refine (check_c pg wd A0 A1 A2 c0 c1 c2 nd _ (HN.out.below (split_below hBB))).mono ?_; rintro e w2 ⟨rfl, hb⟩; have hBB2 := split_next hBB hb; clear hb q0 q1 q2 q3 q4 q7 hBB; have q7 := split_lt hBB2; have HG := Lib.hid (split_row hBB2); have HZ := Lib.hid (split_zero hBB2))
    | (refine wpList_load_row rfl 54 (.tmp 6) rfl (w.heap.size + 1 + 1 + 1) rfl 54 zero7 (0, 0) _ HZ.out Try.underlying54 rfl info54 ?_)
    | (refine wpList_store_row rfl 54 (.tmp 4) (.tmp 21) rfl (w.heap.size + 1 + 1) zero7 rfl rfl 54 _ HG.out info54 rfl zero7_one ?_))
  refine bodyPost_ret (results_ct rfl _ _ (w.heap.size + 1 + 1) 54 zero7 (0, 0) _ rfl (setRow_block _ _ _ _ _ _ HG.out) Try.underlying54 rfl info54) rfl ?_
  exact split_err w _ pg wd nd 80 HE.out (by decide) (below_setRow (split_below hBB2) (by omega) _)

end Go.Proofs.Ytajkoeodabmgeaa
