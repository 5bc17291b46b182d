import Derived.Test.YtajkoeodabmgeaaF1
namespace Go.Proofs.Ytajkoeodabmgeaa
open Go.RowKit
set_option maxHeartbeats 2000000
set_option maxRecDepth 100000
attribute [local go_sem] grow_cell grow_frozen grow_size

abbrev vP (p : PairD) : Value := .agg #[.string p.k, .string p.v]
/-- The world of Put's four blocks. -/
abbrev putW (w : World) (a b c d e f g : Value) : World :=
  (((w.alloc (.cells #[a, b] 24)).alloc (.cells #[c, d, e] 29)).alloc (.cells #[f, g] 31)).alloc (.cells #[.slice none 0 0, .slice none 0 0, .slice none 0 0] 29)

theorem alloc4_at (w : World) (A B C D : Obj) : ((((w.alloc A).alloc B).alloc C).alloc D).heap[w.heap.size + 1 + 1 + 1]? = some D := by
  have := heap_alloc_new (((w.alloc A).alloc B).alloc C) D
  rwa [show (((w.alloc A).alloc B).alloc C).heap.size = w.heap.size + 1 + 1 + 1 by simp] at this

theorem put_row {w w1 : World} {a b c d e f g : Value} (h : Below (w.heap.size + 1 + 1 + 1 + 1) (putW w a b c d e f g) w1) :
    w1.heap[w.heap.size + 1 + 1 + 1]? = some (.cells #[.slice none 0 0, .slice none 0 0, .slice none 0 0] 29 (0, 0)) := (h.block _ (by omega)).trans (alloc4_at w _ _ _ _)
theorem put_lt {w w1 : World} {a b c d e f g : Value} (h : Below (w.heap.size + 1 + 1 + 1 + 1) (putW w a b c d e f g) w1) : w.heap.size + 1 + 1 + 1 < w1.heap.size := by
  have := h.size
  simp only [World.size_alloc, putW] at this
  omega
theorem put_boxes {w w1 : World} {a b c d e f g : Value} (h : Below (w.heap.size + 1 + 1 + 1 + 1) (putW w a b c d e f g) w1) :
    (w1.cell? ⟨w.heap.size, 0, none⟩ = some a ∧ w1.cell? ⟨w.heap.size, 1, none⟩ = some b) ∧
    (w1.cell? ⟨w.heap.size + 1, 0, none⟩ = some c ∧ w1.cell? ⟨w.heap.size + 1, 1, none⟩ = some d ∧ w1.cell? ⟨w.heap.size + 1, 2, none⟩ = some e) ∧
    (w1.cell? ⟨w.heap.size + 1 + 1, 0, none⟩ = some f ∧ w1.cell? ⟨w.heap.size + 1 + 1, 1, none⟩ = some g) := by
  have h0 : w1.heap[w.heap.size]? = some (.cells #[a, b] 24 (0, 0)) := (h.block _ (by omega)).trans ((Below.heap_alloc _ _ _ (by simp <;> omega)).trans (alloc3_0 w _ _ _))
  have h1 : w1.heap[w.heap.size + 1]? = some (.cells #[c, d, e] 29 (0, 0)) := (h.block _ (by omega)).trans ((Below.heap_alloc _ _ _ (by simp <;> omega)).trans (alloc3_1 w _ _ _))
  have h2 : w1.heap[w.heap.size + 1 + 1]? = some (.cells #[f, g] 31 (0, 0)) := (h.block _ (by omega)).trans ((Below.heap_alloc _ _ _ (by simp)).trans (alloc3_at w _ _ _))
  exact ⟨⟨cell_of_row _ _ 0 _ _ _ h0, cell_of_row _ _ 1 _ _ _ h0⟩, ⟨cell_of_row _ _ 0 _ _ _ h1, cell_of_row _ _ 1 _ _ _ h1, cell_of_row _ _ 2 _ _ _ h1⟩, ⟨cell_of_row _ _ 0 _ _ _ h2, cell_of_row _ _ 1 _ _ _ h2⟩⟩
theorem put_base {w : World} {a b c d e f g : Value} : Below w.heap.size w (putW w a b c d e f g) :=
  (((((Below.refl _ _).alloc (Nat.le_refl _) _).alloc (by simp) _).alloc (by simp <;> omega) _).alloc (by simp <;> omega) _)
theorem put_start {w : World} {a b c d e f g : Value} : Below (w.heap.size + 1 + 1 + 1 + 1) (putW w a b c d e f g) (putW w a b c d e f g) := Below.refl _ _
theorem put_first {w w1 : World} {a b c d e f g : Value} (hb : Below (putW w a b c d e f g).heap.size (putW w a b c d e f g) w1) : Below (w.heap.size + 1 + 1 + 1 + 1) (putW w a b c d e f g) w1 := hb.mono (by simp [putW])
theorem put_next {w w1 w2 : World} {a b c d e f g : Value} (h : Below (w.heap.size + 1 + 1 + 1 + 1) (putW w a b c d e f g) w1) (hb : Below w1.heap.size w1 w2) : Below (w.heap.size + 1 + 1 + 1 + 1) (putW w a b c d e f g) w2 :=
  h.trans (hb.mono (put_lt h))
theorem put_below {w w1 : World} {a b c d e f g : Value} (h : Below (w.heap.size + 1 + 1 + 1 + 1) (putW w a b c d e f g) w1) : Below w.heap.size w w1 := put_base.trans (h.mono (by omega))
theorem RdN.put {w w1 : World} {a b c d e f g : Value} {A0 A1 A2 : Option Addr} {c0 c1 c2 : Nat} {nd : NodeD} (hN : RdN w A0 c0 A1 c1 A2 c2 nd) (h : Below (w.heap.size + 1 + 1 + 1 + 1) (putW w a b c d e f g) w1) : RdN w1 A0 c0 A1 c1 A2 c2 nd :=
  hN.below (put_below h)
theorem info29' : (Try.prog.info? 29).map (·.size) = some 3 := by kernel_rfl

theorem sl3_one (A0 A1 A2 : Option Addr) (n0 c0 n1 c1 n2 c2 : Nat) : (#[.slice A0 n0 c0, .slice A1 n1 c1, .slice A2 n2 c2] : Array Value).all (·.oneCell') = true := by simp [Value.oneCell']

def noN : NodeD := ⟨[], [], []⟩
theorem own_noN (w : World) (lo hi : Nat) : OwN w lo hi none 0 none 0 none 0 noN :=
  { pairs := World.ownsRow_nil _ _ _ _, seps := World.ownsRow_nil _ _ _ _, kids := World.ownsRow_nil _ _ _ _
    u0 := fun k h => by simp [Value.ownBlock] at h
    u1 := fun k h => by simp [Value.ownBlock] at h
    u2 := fun k h => by simp [Value.ownBlock] at h
    hp := by simp [noN]
    hs := by simp [noN]
    hk := by simp [noN]
    pk := fun p hp => by simp [noN] at hp
    sk := fun p hp => by simp [noN] at hp
    kk := fun p hp => by simp [noN] at hp }

def manyB (b : Bool) : Nat := if b then 1 else 0
/-- A leaf with a pair put in. -/
def putN (nd : NodeD) (p : PairD) : NodeD := ⟨nd.pairs.take (findI nd.pairs p.k) ++ [p] ++ nd.pairs.drop (findI nd.pairs p.k + manyB (findB nd.pairs p.k)), [], []⟩
/-- May the pair come in? -/
def putP (pg : Int) (p : PairD) : Bool := !(p.k.toList == []) && decide ((p.k.size : Int) ≤ pg / 16) && decide ((p.v.size : Int) ≤ pg / 8)
def putE (pg wd : Int) (nd : NodeD) (p : PairD) : Int := if right pg wd then (if leafB pg wd nd then (if putP pg p then 0 else 2) else 80) else 2
def putR (pg wd : Int) (nd : NodeD) (p : PairD) : NodeD := if putE pg wd nd p = 0 then putN nd p else noN
def putB (pg wd : Int) (nd : NodeD) (p : PairD) : Bool := if putE pg wd nd p = 0 then findB nd.pairs p.k else false

theorem leaf_v (pg wd : Int) (A0 A1 A2 : Option Addr) (c0 c1 c2 : Nat) (nd : NodeD) (w : World) (hN : RdN w A0 c0 A1 c1 A2 c2 nd) (b : Bool) (hb : leafB pg wd nd = b) :
    Calls Try.prog 62 #[vF pg wd, vN A0 c0 A1 c1 A2 c2 nd] w fun e w' => e = .returned (.bool b) ∧ Below w.heap.size w w' := by
  subst hb; exact leaf_c pg wd A0 A1 A2 c0 c1 c2 nd w hN

theorem put_err (w w1 : World) (pg wd : Int) (nd : NodeD) (p : PairD) (E : Int) (hE : putE pg wd nd p = E) (hne : E ≠ 0) (hb : Below w.heap.size w w1) :
    ∃ B0 d0, Ending.returned (.tuple #[.agg #[.slice none 0 0, .slice none 0 0, .slice none 0 0], .bool false, .int .i64 E]) = .returned (.tuple #[vN B0 d0 none 0 none 0 (putR pg wd nd p), .bool (putB pg wd nd p), .int .i64 (putE pg wd nd p)]) ∧
      OwN w1 w.heap.size w1.heap.size B0 d0 none 0 none 0 (putR pg wd nd p) ∧ Below w.heap.size w w1 := by
  refine ⟨none, 0, ?_, ?_, hb⟩
  · simp [putR, putB, hE, hne, noN]
  · simp only [putR, hE, if_neg hne]; exact own_noN _ _ _

theorem put_wrong (pg wd : Int) (A0 A1 A2 : Option Addr) (c0 c1 c2 : Nat) (nd : NodeD) (p : PairD) (w : World) (hr : right pg wd = false) :
    Calls Try.prog 22 #[vF pg wd, vN A0 c0 A1 c1 A2 c2 nd, vP p] w fun e w' =>
      ∃ B0 d0, e = .returned (.tuple #[vN B0 d0 none 0 none 0 (putR pg wd nd p), .bool (putB pg wd nd p), .int .i64 (putE pg wd nd p)]) ∧
        OwN w' w.heap.size w'.heap.size B0 d0 none 0 none 0 (putR pg wd nd p) ∧ Below w.heap.size w w' := by
  have hE : putE pg wd nd p = 2 := by simp [putE, hr]
  have HE := Lib.hid hE
  have HR := Lib.hid hr
  clear hE hr
  go_enter Try.func22, Try.ntmps22
  go_wp2_with (first
    | (go_at_call 61; refine (frame_v pg wd _ _ HR.out).mono ?_; rintro e w1 ⟨rfl, hb⟩; have hBB := put_first hb; clear hb; obtain ⟨⟨q0, q1⟩, ⟨q2, q3, q4⟩, q5, q6⟩ := put_boxes hBB; have q7 := put_lt hBB; have HG := Lib.hid (put_row hBB))
    | (refine wpList_store_row rfl 29 (.tmp 6) (.tmp 16) rfl (w.heap.size + 1 + 1 + 1) #[.slice none 0 0, .slice none 0 0, .slice none 0 0] rfl rfl 29 _ HG.out info29' rfl (sl3_one _ _ _ _ _ _ _ _ _) ?_))
  refine bodyPost_ret (results_ctt rfl _ _ (w.heap.size + 1 + 1 + 1) 29 #[.slice none 0 0, .slice none 0 0, .slice none 0 0] (0, 0) _ rfl (setRow_block _ _ _ _ _ _ HG.out) Try.underlying29 rfl info29') rfl ?_
  exact put_err w _ pg wd nd p 2 HE.out (by decide) (below_setRow (put_below hBB) (by omega) _)

theorem put_unshaped (pg wd : Int) (A0 A1 A2 : Option Addr) (c0 c1 c2 : Nat) (nd : NodeD) (p : PairD) (w : World) (hN : RdN w A0 c0 A1 c1 A2 c2 nd) (hr : right pg wd = true) (hl : leafB pg wd nd = false) :
    Calls Try.prog 22 #[vF pg wd, vN A0 c0 A1 c1 A2 c2 nd, vP p] w fun e w' =>
      ∃ B0 d0, e = .returned (.tuple #[vN B0 d0 none 0 none 0 (putR pg wd nd p), .bool (putB pg wd nd p), .int .i64 (putE pg wd nd p)]) ∧
        OwN w' w.heap.size w'.heap.size B0 d0 none 0 none 0 (putR pg wd nd p) ∧ Below w.heap.size w w' := by
  have hE : putE pg wd nd p = 80 := by simp [putE, hr, hl]
  have HE := Lib.hid hE
  have HR := Lib.hid hr
  have HL := Lib.hid hl
  have HN := Lib.hid hN
  clear hE hr hl hN
  go_enter Try.func22, Try.ntmps22
  go_wp2_with (first
    | (go_at_call 61; refine (frame_v pg wd _ _ HR.out).mono ?_; rintro e w1 ⟨rfl, hb⟩; have hBB := put_first hb; clear hb; obtain ⟨⟨q0, q1⟩, ⟨q2, q3, q4⟩, q5, q6⟩ := put_boxes hBB; have q7 := put_lt hBB)
    | (go_at_call 62; refine (leaf_v pg wd A0 A1 A2 c0 c1 c2 nd _ (HN.out.put hBB) _ HL.out).mono ?_; rintro e w2 ⟨rfl, hb⟩; have hBB2 := put_next hBB hb; clear hb q0 q1 q2 q3 q4 q5 q6 q7 hBB; have q7 := put_lt hBB2; have HG := Lib.hid (put_row hBB2))
    | (refine wpList_store_row rfl 29 (.tmp 6) (.tmp 22) rfl (w.heap.size + 1 + 1 + 1) #[.slice none 0 0, .slice none 0 0, .slice none 0 0] rfl rfl 29 _ HG.out info29' rfl (sl3_one _ _ _ _ _ _ _ _ _) ?_))
  refine bodyPost_ret (results_ctt rfl _ _ (w.heap.size + 1 + 1 + 1) 29 #[.slice none 0 0, .slice none 0 0, .slice none 0 0] (0, 0) _ rfl (setRow_block _ _ _ _ _ _ HG.out) Try.underlying29 rfl info29') rfl ?_
  exact put_err w _ pg wd nd p 80 HE.out (by decide) (below_setRow (put_below hBB2) (by omega) _)

theorem put_arg (pg wd : Int) (A0 A1 A2 : Option Addr) (c0 c1 c2 : Nat) (nd : NodeD) (p : PairD) (w : World) (hN : RdN w A0 c0 A1 c1 A2 c2 nd) (hr : right pg wd = true) (hl : leafB pg wd nd = true) (hp : putP pg p = false) :
    Calls Try.prog 22 #[vF pg wd, vN A0 c0 A1 c1 A2 c2 nd, vP p] w fun e w' =>
      ∃ B0 d0, e = .returned (.tuple #[vN B0 d0 none 0 none 0 (putR pg wd nd p), .bool (putB pg wd nd p), .int .i64 (putE pg wd nd p)]) ∧
        OwN w' w.heap.size w'.heap.size B0 d0 none 0 none 0 (putR pg wd nd p) ∧ Below w.heap.size w w' := by
  have hE : putE pg wd nd p = 2 := by simp [putE, hr, hl, hp]
  have HE := Lib.hid hE
  have hrs := right_spec hr
  have HR := Lib.hid hr
  have HL := Lib.hid hl
  have HN := Lib.hid hN
  have h0 : 0 ≤ pg := by omega
  have h1 : pg ≤ 8192 := by omega
  have HP := Lib.hid hp
  clear hE hr hl hN hp
  cases k1 : p.k.toList == []
  case' false => cases k2 : decide (pg / 16 < (p.k.size : Int))
  case' false.false =>
    have k3 : decide (pg / 8 < (p.v.size : Int)) = true := by
      have := HP.out
      have k2 := of_decide_eq_false k2
      simp only [putP, k1, Bool.not_false, Bool.true_and, Bool.and_eq_false_iff, decide_eq_false_iff_not] at this
      exact decide_eq_true (by omega)
  all_goals
    go_enter Try.func22, Try.ntmps22
    go_wp2_with (first
      | (go_at_call 61; refine (frame_v pg wd _ _ HR.out).mono ?_; rintro e w1 ⟨rfl, hb⟩; have hBB := put_first hb; clear hb; obtain ⟨⟨q0, q1⟩, ⟨q2, q3, q4⟩, q5, q6⟩ := put_boxes hBB; have q7 := put_lt hBB)
      | (go_at_call 62; refine (leaf_v pg wd A0 A1 A2 c0 c1 c2 nd _ (HN.out.put hBB) _ HL.out).mono ?_; rintro e w2 ⟨rfl, hb⟩; have hBB2 := put_next hBB hb; clear hb q0 q1 q2 q3 q4 q5 q6 q7 hBB; obtain ⟨⟨q0, q1⟩, ⟨q2, q3, q4⟩, q5, q6⟩ := put_boxes hBB2; have q7 := put_lt hBB2))
    have q8 : w.heap.size < w2.heap.size := by omega
    have q9 : w.heap.size + 1 < w2.heap.size := by omega
    have q10 : w.heap.size + 1 + 1 < w2.heap.size := by omega
    refine wp_region_grow (by kernel_rfl) (by kernel_rfl) ?_
    repeat (any_goals (first
      | go_big_quiet_step ((first | (go_at_call 63; exact quiet_below (maxKey_c pg wd _ h0 h1)) | (go_at_call 64; exact quiet_below (maxVal_c pg wd _ h0 h1))))
      | quiet_step ((first | (go_at_call 63; exact quiet_below (maxKey_c pg wd _ h0 h1)) | (go_at_call 64; exact quiet_below (maxVal_c pg wd _ h0 h1))))))
    refine wpQuiet_nil ?_
    intro w3 hb
    have hBB3 := put_next hBB2 hb
    clear hb q0 q1 q2 q3 q4 q5 q6 q7 q8 q9 q10 hBB2
    have q7 := put_lt hBB3
    have HG := Lib.hid (put_row hBB3)
    go_wp2_with (first
      | (refine wpList_store_row rfl 29 (.tmp 6) (.tmp 43) rfl (w.heap.size + 1 + 1 + 1) #[.slice none 0 0, .slice none 0 0, .slice none 0 0] rfl rfl 29 _ HG.out info29' rfl (sl3_one _ _ _ _ _ _ _ _ _) ?_))
    refine bodyPost_ret (results_ctt rfl _ _ (w.heap.size + 1 + 1 + 1) 29 #[.slice none 0 0, .slice none 0 0, .slice none 0 0] (0, 0) _ rfl (setRow_block _ _ _ _ _ _ HG.out) Try.underlying29 rfl info29') rfl ?_
    exact put_err w _ pg wd nd p 2 HE.out (by decide) (below_setRow (put_below hBB3) (by omega) _)

end Go.Proofs.Ytajkoeodabmgeaa
